/- Part 36 of the proof of TopRights: Makers, one of which need not wait for, nor be waited for by, the build of what the others made. No walk. -/
import Derived.Test.YtngjakahanmepaaGreatDoorM35
namespace Go.Proofs.YtngjakahanmepaaGreatDoor
open Go.RowKit
set_option linter.unusedSectionVars false
set_option linter.unusedVariables false
set_option linter.unusedSimpArgs false
section
variable {P : Program} {l : List Oper} {Q : Exit → Act → World → Prop} {S : World → Prop} {n : Nat}
def upF {α : Type} (f : Nat → α) (j : Nat) (v : α) : Nat → α := fun k => if k = j then v else f k
theorem upF_same {α : Type} (f : Nat → α) (j : Nat) (v : α) : upF f j v j = v := if_pos rfl
theorem upF_other {α : Type} (f : Nat → α) {j k : Nat} (v : α) (h : k ≠ j) : upF f j v k = f k := if_neg h
structure MkF (F : Nat → Value → Nat → Nat → World → Prop) (w0 : World) (L : List Nat) (vs : Nat → Value) (lo hi : Nat → Nat) (w : World) : Prop where
  bel : Below w0.heap.size w0 w
  at' : ∀ i ∈ L, F i (vs i) (lo i) (hi i) w ∧ w0.heap.size ≤ lo i ∧ hi i ≤ w.heap.size
  dis : ∀ i ∈ L, ∀ j ∈ L, i ≠ j → hi i ≤ lo j ∨ hi j ≤ lo i
theorem MkF.perm {F : Nat → Value → Nat → Nat → World → Prop} {w0 w : World} {L L' : List Nat} {vs : Nat → Value} {lo hi : Nat → Nat} (h : MkF F w0 L vs lo hi w) (hp : L.Perm L') : MkF F w0 L' vs lo hi w :=
  ⟨h.bel, fun i hi' => h.at' i (hp.mem_iff.2 hi'), fun i hi' j hj => h.dis i (hp.mem_iff.2 hi') j (hp.mem_iff.2 hj)⟩
theorem MkF.step {F : Nat → Value → Nat → Nat → World → Prop} (hF : ∀ i v lo hi w w', F i v lo hi w → Below w.heap.size w w' → F i v lo hi w') {w0 w w' : World} {L : List Nat} {vs : Nat → Value} {lo hi : Nat → Nat} (h : MkF F w0 L vs lo hi w) {j : Nat} (hj : j ∉ L) {v : Value}
    (hf : F j v w.heap.size w'.heap.size w') (hb : Below w.heap.size w w') : MkF F w0 (L ++ [j]) (upF vs j v) (upF lo j w.heap.size) (upF hi j w'.heap.size) w' where
  bel := h.bel.trans (hb.mono h.bel.size)
  at' := fun i hi' => by
    rcases List.mem_append.1 hi' with hd | hd
    · have hij : i ≠ j := fun e => hj (e ▸ hd)
      rw [upF_other _ _ hij, upF_other _ _ hij, upF_other _ _ hij]
      have := h.at' i hd
      exact ⟨hF _ _ _ _ _ _ this.1 hb, this.2.1, Nat.le_trans this.2.2 hb.size⟩
    · obtain rfl := List.mem_singleton.1 hd
      rw [upF_same, upF_same, upF_same]
      exact ⟨hf, h.bel.size, Nat.le_refl _⟩
  dis := fun i hi' k hk' hne' => by
    rcases List.mem_append.1 hi' with hd' | hd' <;> rcases List.mem_append.1 hk' with hk2 | hk2
    · have hij : i ≠ j := fun e => hj (e ▸ hd')
      have hkj : k ≠ j := fun e => hj (e ▸ hk2)
      rw [upF_other _ _ hij, upF_other _ _ hij, upF_other _ _ hkj, upF_other _ _ hkj]
      exact h.dis i hd' k hk2 hne'
    · obtain rfl := List.mem_singleton.1 hk2
      rw [upF_other _ _ hne', upF_other _ _ hne', upF_same, upF_same]
      exact .inl (h.at' i hd').2.2
    · obtain rfl := List.mem_singleton.1 hd'
      rw [upF_other _ _ (Ne.symm hne'), upF_other _ _ (Ne.symm hne'), upF_same, upF_same]
      exact .inr (h.at' k hk2).2.2
    · exact absurd ((List.mem_singleton.1 hd').trans (List.mem_singleton.1 hk2).symm) hne'
theorem putAll_up {d : Nat → Nat} {vs : Nat → Value} {L : List Nat} {j : Nat} (hj : j ∉ L) (v : Value) (a : Act) : putAll d (upF vs j v) (L ++ [j]) a = (putAll d vs L a).put (some (d j)) v := by
  have h : ∀ i ∈ L, upF vs j v i = vs i := fun i hi => upF_other _ _ (fun e => by subst e; exact hj hi)
  rw [putAll_snoc, upF_same, putAll_congr a h]
theorem wpK_takeD {i f : Nat} {oi : Oper} {v : Value} {listed : Array Bool} {a : Act} {w : World} (dd : Option Nat) (hB : tailB l n = true) (hi : l.toArray[i]? = some oi) (hd : oi.dst = dd) (hin : i < n)
    (hf : Region.free .any l.toArray listed i = true) (hr : (Region.ready .any l.toArray listed).contains i = true) (hQ : ∀ c a w, Q (.panic c) (a.put dd v) w → Q (.panic c) a w)
    (hy : YieldsIf P l.toArray S oi v a) (hS : S w) (h : KW P l n Q S f (listed.setIfInBounds i true) (a.put dd v) w) : KW P l n Q S (f + 1) listed a w := by
  subst hd
  exact wpK_take hB hi hin hf hr hQ hy hS h
/-- x may come at any time; the build (bi) as soon as the others are done -/
def readyX (l : List Oper) (M : List Nat) (x bi : Nat) (listed : Array Bool) : Bool := (subsL M).all fun D =>
  if D.length == M.length then
    (Region.ready .any l.toArray (markAll (D ++ [x]) listed)).contains bi && Region.free .any l.toArray (markAll (D ++ [x]) listed) bi && (Region.ready .any l.toArray (markAll D listed)).contains bi && Region.free .any l.toArray (markAll D listed) bi
      && (Region.ready .any l.toArray ((markAll D listed).setIfInBounds bi true) == [x])
  else (!(Region.ready .any l.toArray (markAll (D ++ [x]) listed)).isEmpty && (Region.ready .any l.toArray (markAll (D ++ [x]) listed)).all fun j => M.contains j && !D.contains j)
      && (!(Region.ready .any l.toArray (markAll D listed)).isEmpty && (Region.ready .any l.toArray (markAll D listed)).all fun j => (M.contains j && !D.contains j) || j == x)
theorem readyX_of {M : List Nat} {x bi : Nat} {listed : Array Bool} (hM : M.Nodup) (h : readyX l M x bi listed = true) {D R : List Nat} (hp : (D ++ R).Perm M) (hR : R ≠ []) :
    (Region.ready .any l.toArray (markAll (D ++ [x]) listed) ≠ [] ∧ ∀ j ∈ Region.ready .any l.toArray (markAll (D ++ [x]) listed), j ∈ R) ∧ (Region.ready .any l.toArray (markAll D listed) ≠ [] ∧ ∀ j ∈ Region.ready .any l.toArray (markAll D listed), j ∈ R ∨ j = x) := by
  have hnd : (D ++ R).Nodup := hp.nodup_iff.2 hM
  rw [List.nodup_append] at hnd
  obtain ⟨h1, h2, h3⟩ := hnd
  have hf : D.Perm (M.filter fun i => D.contains i) := by
    have e := hp.filter (fun i => D.contains i)
    rw [List.filter_append] at e
    have e1 : D.filter (fun i => D.contains i) = D := List.filter_eq_self.2 fun i hi => by simpa using hi
    have e2 : R.filter (fun i => D.contains i) = [] := List.filter_eq_nil_iff.2 fun i hi hc => h3 i (by simpa using hc) i hi rfl
    rw [e1, e2, List.append_nil] at e
    exact e
  have hs := List.all_eq_true.1 h _ (filter_subs (fun i => D.contains i) M)
  have hl : ((M.filter fun i => D.contains i).length == M.length) = false := by
    rw [beq_eq_false_iff_ne, ← hf.length_eq, ← hp.length_eq, List.length_append]
    have : 0 < R.length := List.length_pos_iff.2 hR
    omega
  rw [hl] at hs
  rw [if_neg Bool.false_ne_true, ← markAll_perm hf, ← markAll_perm (hf.append_right [x]), Bool.and_eq_true, Bool.and_eq_true, Bool.and_eq_true] at hs
  have hin : ∀ j, (M.contains j && !(M.filter fun i => D.contains i).contains j) = true → j ∈ R := fun j h4 => by
    simp only [Bool.and_eq_true, List.contains_iff_mem, Bool.not_eq_true', List.contains_eq_mem, decide_eq_false_iff_not, List.mem_filter, decide_eq_true_eq] at h4
    rcases List.mem_append.1 (hp.mem_iff.2 h4.1) with hd | hr
    · exact absurd ⟨h4.1, hd⟩ h4.2
    · exact hr
  refine ⟨⟨fun e => by rw [e] at hs; simp at hs, fun j hj => hin j (List.all_eq_true.1 hs.1.2 j hj)⟩, ⟨fun e => by rw [e] at hs; simp at hs, fun j hj => ?_⟩⟩
  have h5 := List.all_eq_true.1 hs.2.2 j hj
  rw [Bool.or_eq_true] at h5
  rcases h5 with h5 | h5
  · exact .inl (hin j h5)
  · exact .inr (by simpa using h5)
theorem readyX_end {M : List Nat} {x bi : Nat} {listed : Array Bool} (h : readyX l M x bi listed = true) :
    ((Region.ready .any l.toArray (markAll (M ++ [x]) listed)).contains bi = true ∧ Region.free .any l.toArray (markAll (M ++ [x]) listed) bi = true) ∧ (Region.ready .any l.toArray (markAll M listed)).contains bi = true ∧ Region.free .any l.toArray (markAll M listed) bi = true
      ∧ Region.ready .any l.toArray ((markAll M listed).setIfInBounds bi true) = [x] := by
  have hs := List.all_eq_true.1 h _ (filter_subs (fun _ => true) M)
  have e : M.filter (fun _ => true) = M := List.filter_eq_self.2 fun _ _ => rfl
  rw [e] at hs
  have : (M.length == M.length) = true := by simp
  rw [this, if_pos rfl] at hs
  simp only [Bool.and_eq_true, beq_iff_eq] at hs
  exact ⟨hs.1.1.1, hs.1.1.2, hs.1.2, hs.2⟩
theorem wpK_makersX_go1 {f : Nat} {listed0 : Array Bool} {a0 : Act} {w0 : World} (M : List Nat) (x bi : Nat) (hM : M.Nodup) (hx : x ∉ M) (d : Nat → Nat) (hd : ∀ i ∈ M ++ [x], ∀ j ∈ M ++ [x], d i = d j → i = j) (db : Nat) (hdb : d x ≠ db) (vb : (Nat → Value) → Value) (F : Nat → Value → Nat → Nat → World → Prop)
    (hT : tailB l n = true) (hready : readyX l M x bi listed0 = true) (hlt : ∀ i ∈ M ++ [x], i < n) (hbn : bi < n)
    (hrun : ∀ i ∈ M ++ [x], ∃ o, l.toArray[i]? = some o ∧ ∀ D vs w K', (∀ j ∈ D, j ∈ M ++ [x]) → Below w0.heap.size w0 w →
      (∀ v w', F i v w.heap.size w'.heap.size w' → Below w.heap.size w w' → K' ((putAll d vs D a0).put (some (d i)) v) w') → wpList P l.toArray (onNormal Q K') [o] (putAll d vs D a0) w)
    (hrunx : ∃ o, l.toArray[x]? = some o ∧ ∀ a w K', Below w0.heap.size w0 w →
      (∀ v w', F x v w.heap.size w'.heap.size w' → Below w.heap.size w w' → K' (a.put (some (d x)) v) w') → wpList P l.toArray (onNormal Q K') [o] a w)
    (hF : ∀ i v lo hi w w', F i v lo hi w → Below w.heap.size w w' → F i v lo hi w')
    (hS : ∀ w, Below w0.heap.size w0 w → S w)
    (hbuild : ∃ o, l.toArray[bi]? = some o ∧ o.dst = some db ∧ (∀ v c a w, Q (.panic c) (a.put (some db) v) w → Q (.panic c) a w) ∧ ∀ vs lo hi w, MkF F w0 M vs lo hi w → YieldsIf P l.toArray S o (vb vs) (putAll d vs M a0) ∧ ∀ v, YieldsIf P l.toArray S o (vb vs) ((putAll d vs M a0).put (some (d x)) v))
    (hvb : ∀ vs v, vb (upF vs x v) = vb vs)
    (hend : ∀ (vs : Nat → Value) (lo hi : Nat → Nat) w', MkF F w0 (M ++ [x]) vs lo hi w' → KW P l n Q S f ((markAll (M ++ [x]) listed0).setIfInBounds bi true) ((putAll d vs (M ++ [x]) a0).put (some db) (vb vs)) w') : ∀ (m : Nat) (D R : List Nat) (vs : Nat → Value) (lo hi : Nat → Nat) (w : World), (D ++ R).Perm M → R.length = m → MkF F w0 (D ++ [x]) vs lo hi w →
      KW P l n Q S (m + (f + 1)) (markAll (D ++ [x]) listed0) (putAll d vs (D ++ [x]) a0) w
  | 0, D, R, vs, lo, hi, w, hp, hR, hm => by
    obtain rfl : R = [] := List.length_eq_zero_iff.1 hR
    rw [List.append_nil] at hp
    have hp1 := hp.append_right [x]
    obtain ⟨⟨e1, e2⟩, _⟩ := readyX_end hready
    obtain ⟨o, ho, hdst, hQ, hy⟩ := hbuild
    have hdM : ∀ i ∈ D ++ [x], ∀ j ∈ D ++ [x], d i = d j → i = j := fun i hi' j hj => hd i (hp1.mem_iff.1 hi') j (hp1.mem_iff.1 hj)
    rw [Nat.zero_add, markAll_perm hp1, putAll_perm hp1 hdM]
    have hmM : MkF F w0 M vs lo hi w := ⟨hm.bel, fun i hi' => hm.at' i (List.mem_append.2 (.inl (hp.mem_iff.2 hi'))), fun i hi' j hj => hm.dis i (List.mem_append.2 (.inl (hp.mem_iff.2 hi'))) j (List.mem_append.2 (.inl (hp.mem_iff.2 hj)))⟩
    refine wpK_take (v := vb vs) hT ho hbn e2 e1 (by rw [hdst]; exact fun c a w => hQ _ c a w) ?_ (hS w hm.bel) ?_
    · rw [putAll_snoc]
      exact (hy vs lo hi w hmM).2 _
    · rw [hdst]
      exact hend vs lo hi w (hm.perm hp1)
  | m + 1, D, R, vs, lo, hi, w, hp, hR, hm => by
    have hne : R ≠ [] := fun e => by rw [e] at hR; simp at hR
    obtain ⟨h1, h2⟩ := (readyX_of hM hready hp hne).1
    rw [show m + 1 + (f + 1) = (m + (f + 1)) + 1 by omega]
    refine wpK_any h1 (fun j hj => ?_)
    have hjR := h2 j hj
    have hjM : j ∈ M := hp.mem_iff.1 (List.mem_append.2 (.inr hjR))
    have hjX : j ∈ M ++ [x] := List.mem_append.2 (.inl hjM)
    obtain ⟨o, ho, hr⟩ := hrun j hjX
    have hnd : (D ++ R).Nodup := hp.nodup_iff.2 hM
    have hjD : j ∉ D := fun hjd => (List.nodup_append.1 hnd).2.2 j hjd j hjR rfl
    have hjx : j ≠ x := fun e => hx (e ▸ hjM)
    have hjDx : j ∉ D ++ [x] := fun h => by
      rcases List.mem_append.1 h with h | h
      · exact hjD h
      · exact hjx (List.mem_singleton.1 h)
    refine ⟨hlt j hjX, o, ho, hr (D ++ [x]) vs w _ (fun i hi' => by
      rcases List.mem_append.1 hi' with h | h
      · exact List.mem_append.2 (.inl (hp.mem_iff.1 (List.mem_append.2 (.inl h))))
      · exact List.mem_append.2 (.inr h)) hm.bel (fun v w' hf hbw => ?_)⟩
    have hm' := hm.step hF hjDx hf hbw
    refine ⟨hS w' hm'.bel, ?_⟩
    have hp' : ((D ++ [j]) ++ R.erase j).Perm M := by
      rw [List.append_assoc]
      exact ((List.Perm.append_left D (List.perm_cons_erase hjR)).symm).trans hp
    have hl' : (R.erase j).length = m := by rw [List.length_erase_of_mem hjR]; omega
    have hsw : ((D ++ [x]) ++ [j]).Perm ((D ++ [j]) ++ [x]) := by
      rw [List.append_assoc, List.append_assoc]
      exact List.Perm.append_left D (List.Perm.swap j x [])
    have ih := wpK_makersX_go1 M x bi hM hx d hd db hdb vb F hT hready hlt hbn hrun hrunx hF hS hbuild hvb hend m (D ++ [j]) (R.erase j) _ _ _ w' hp' hl' (hm'.perm hsw)
    rw [← markAll_perm hsw, ← putAll_perm hsw, putAll_up hjDx, markAll_snoc] at ih
    · exact ih
    · intro i hi' k hk
      have hsub : ∀ i ∈ (D ++ [x]) ++ [j], i ∈ M ++ [x] := fun i hi' => by
        rcases List.mem_append.1 hi' with h | h
        · rcases List.mem_append.1 h with h | h
          · exact List.mem_append.2 (.inl (hp.mem_iff.1 (List.mem_append.2 (.inl h))))
          · exact List.mem_append.2 (.inr h)
        · rw [List.mem_singleton.1 h]; exact hjX
      exact hd i (hsub i hi') k (hsub k hk)
theorem wpK_makersX_go2 {f : Nat} {listed0 : Array Bool} {a0 : Act} {w0 : World} (M : List Nat) (x bi : Nat) (hM : M.Nodup) (hx : x ∉ M) (d : Nat → Nat) (hd : ∀ i ∈ M ++ [x], ∀ j ∈ M ++ [x], d i = d j → i = j) (db : Nat) (hdb : d x ≠ db) (vb : (Nat → Value) → Value) (F : Nat → Value → Nat → Nat → World → Prop)
    (hT : tailB l n = true) (hready : readyX l M x bi listed0 = true) (hlt : ∀ i ∈ M ++ [x], i < n) (hbn : bi < n)
    (hrun : ∀ i ∈ M ++ [x], ∃ o, l.toArray[i]? = some o ∧ ∀ D vs w K', (∀ j ∈ D, j ∈ M ++ [x]) → Below w0.heap.size w0 w →
      (∀ v w', F i v w.heap.size w'.heap.size w' → Below w.heap.size w w' → K' ((putAll d vs D a0).put (some (d i)) v) w') → wpList P l.toArray (onNormal Q K') [o] (putAll d vs D a0) w)
    (hrunx : ∃ o, l.toArray[x]? = some o ∧ ∀ a w K', Below w0.heap.size w0 w →
      (∀ v w', F x v w.heap.size w'.heap.size w' → Below w.heap.size w w' → K' (a.put (some (d x)) v) w') → wpList P l.toArray (onNormal Q K') [o] a w)
    (hF : ∀ i v lo hi w w', F i v lo hi w → Below w.heap.size w w' → F i v lo hi w')
    (hS : ∀ w, Below w0.heap.size w0 w → S w)
    (hbuild : ∃ o, l.toArray[bi]? = some o ∧ o.dst = some db ∧ (∀ v c a w, Q (.panic c) (a.put (some db) v) w → Q (.panic c) a w) ∧ ∀ vs lo hi w, MkF F w0 M vs lo hi w → YieldsIf P l.toArray S o (vb vs) (putAll d vs M a0) ∧ ∀ v, YieldsIf P l.toArray S o (vb vs) ((putAll d vs M a0).put (some (d x)) v))
    (hvb : ∀ vs v, vb (upF vs x v) = vb vs)
    (hend : ∀ (vs : Nat → Value) (lo hi : Nat → Nat) w', MkF F w0 (M ++ [x]) vs lo hi w' → KW P l n Q S f ((markAll (M ++ [x]) listed0).setIfInBounds bi true) ((putAll d vs (M ++ [x]) a0).put (some db) (vb vs)) w') : ∀ (m : Nat) (D R : List Nat) (vs : Nat → Value) (lo hi : Nat → Nat) (w : World), (D ++ R).Perm M → R.length = m → MkF F w0 D vs lo hi w →
      KW P l n Q S (m + (f + 2)) (markAll D listed0) (putAll d vs D a0) w
  | 0, D, R, vs, lo, hi, w, hp, hR, hm => by
    obtain rfl : R = [] := List.length_eq_zero_iff.1 hR
    rw [List.append_nil] at hp
    obtain ⟨_, e1, e2, e3⟩ := readyX_end hready
    have hb := hbuild
    obtain ⟨o, ho, hdst, hQ, hy⟩ := hb
    have hdM : ∀ i ∈ D, ∀ j ∈ D, d i = d j → i = j := fun i hi' j hj => hd i (List.mem_append.2 (.inl (hp.mem_iff.1 hi'))) j (List.mem_append.2 (.inl (hp.mem_iff.1 hj)))
    rw [Nat.zero_add, markAll_perm hp, putAll_perm hp hdM]
    have hmM := hm.perm hp
    refine wpK_take (v := vb vs) hT ho hbn e2 e1 (by rw [hdst]; exact fun c a w => hQ _ c a w) (hy vs lo hi w hmM).1 (hS w hm.bel) ?_
    rw [hdst]
    obtain ⟨o2, ho2, hr2⟩ := hrunx
    refine wpK_one x ho2 (hlt x (List.mem_append.2 (.inr (List.mem_singleton.2 rfl)))) e3 ?_
    refine hr2 _ w _ hm.bel (fun v w' hf hbw => ?_)
    have hm' := hmM.step hF hx hf hbw
    refine ⟨hS w' hm'.bel, ?_⟩
    have h := hend _ _ _ w' hm'
    rw [putAll_up hx, hvb, markAll_snoc, put_comm hdb] at h
    by_cases hxb : bi = x
    · subst hxb; simpa using h
    · rw [Array.setIfInBounds_comm _ _ hxb]; exact h
  | m + 1, D, R, vs, lo, hi, w, hp, hR, hm => by
    have hne : R ≠ [] := fun e => by rw [e] at hR; simp at hR
    obtain ⟨h1, h2⟩ := (readyX_of hM hready hp hne).2
    rw [show m + 1 + (f + 2) = (m + 1 + (f + 1)) + 1 by omega]
    have hDM : ∀ i ∈ D, i ∈ M := fun i hi' => hp.mem_iff.1 (List.mem_append.2 (.inl hi'))
    refine wpK_any h1 (fun j hj => ?_)
    rcases h2 j hj with hjR | rfl
    · have hjM : j ∈ M := hp.mem_iff.1 (List.mem_append.2 (.inr hjR))
      have hjX : j ∈ M ++ [x] := List.mem_append.2 (.inl hjM)
      obtain ⟨o, ho, hr⟩ := hrun j hjX
      have hnd : (D ++ R).Nodup := hp.nodup_iff.2 hM
      have hjD : j ∉ D := fun hjd => (List.nodup_append.1 hnd).2.2 j hjd j hjR rfl
      refine ⟨hlt j hjX, o, ho, hr D vs w _ (fun i hi' => List.mem_append.2 (.inl (hDM i hi'))) hm.bel (fun v w' hf hbw => ?_)⟩
      have hm' := hm.step hF hjD hf hbw
      refine ⟨hS w' hm'.bel, ?_⟩
      have hp' : ((D ++ [j]) ++ R.erase j).Perm M := by
        rw [List.append_assoc]
        exact ((List.Perm.append_left D (List.perm_cons_erase hjR)).symm).trans hp
      have hl' : (R.erase j).length = m := by rw [List.length_erase_of_mem hjR]; omega
      have ih := wpK_makersX_go2 M x bi hM hx d hd db hdb vb F hT hready hlt hbn hrun hrunx hF hS hbuild hvb hend m (D ++ [j]) (R.erase j) _ _ _ w' hp' hl' hm'
      rw [putAll_up hjD, markAll_snoc, show m + (f + 2) = m + 1 + (f + 1) by omega] at ih
      exact ih
    · have hxD : j ∉ D := fun h => hx (hDM j h)
      obtain ⟨o2, ho2, hr2⟩ := hrunx
      refine ⟨hlt j (List.mem_append.2 (.inr (List.mem_singleton.2 rfl))), o2, ho2, hr2 _ w _ hm.bel (fun v w' hf hbw => ?_)⟩
      have hm' := hm.step hF hxD hf hbw
      refine ⟨hS w' hm'.bel, ?_⟩
      have ih := wpK_makersX_go1 M j bi hM hx d hd db hdb vb F hT hready hlt hbn hrun ⟨o2, ho2, hr2⟩ hF hS hbuild hvb hend (m + 1) D R _ _ _ w' hp hR hm'
      rw [putAll_up hxD, markAll_snoc] at ih
      exact ih
theorem wpK_makersX {f : Nat} {listed0 : Array Bool} {a0 : Act} {w0 : World} (M : List Nat) (x bi : Nat) (hM : M.Nodup) (hx : x ∉ M) (d : Nat → Nat) (hd : ∀ i ∈ M ++ [x], ∀ j ∈ M ++ [x], d i = d j → i = j) (db : Nat) (hdb : d x ≠ db) (vb : (Nat → Value) → Value) (F : Nat → Value → Nat → Nat → World → Prop)
    (hT : tailB l n = true) (hready : readyX l M x bi listed0 = true) (hlt : ∀ i ∈ M ++ [x], i < n) (hbn : bi < n)
    (hrun : ∀ i ∈ M ++ [x], ∃ o, l.toArray[i]? = some o ∧ ∀ D vs w K', (∀ j ∈ D, j ∈ M ++ [x]) → Below w0.heap.size w0 w →
      (∀ v w', F i v w.heap.size w'.heap.size w' → Below w.heap.size w w' → K' ((putAll d vs D a0).put (some (d i)) v) w') → wpList P l.toArray (onNormal Q K') [o] (putAll d vs D a0) w)
    (hrunx : ∃ o, l.toArray[x]? = some o ∧ ∀ a w K', Below w0.heap.size w0 w →
      (∀ v w', F x v w.heap.size w'.heap.size w' → Below w.heap.size w w' → K' (a.put (some (d x)) v) w') → wpList P l.toArray (onNormal Q K') [o] a w)
    (hF : ∀ i v lo hi w w', F i v lo hi w → Below w.heap.size w w' → F i v lo hi w')
    (hS : ∀ w, Below w0.heap.size w0 w → S w)
    (hbuild : ∃ o, l.toArray[bi]? = some o ∧ o.dst = some db ∧ (∀ v c a w, Q (.panic c) (a.put (some db) v) w → Q (.panic c) a w) ∧ ∀ vs lo hi w, MkF F w0 M vs lo hi w → YieldsIf P l.toArray S o (vb vs) (putAll d vs M a0) ∧ ∀ v, YieldsIf P l.toArray S o (vb vs) ((putAll d vs M a0).put (some (d x)) v))
    (hvb : ∀ vs v, vb (upF vs x v) = vb vs)
    (hend : ∀ (vs : Nat → Value) (lo hi : Nat → Nat) w', MkF F w0 (M ++ [x]) vs lo hi w' → KW P l n Q S f ((markAll (M ++ [x]) listed0).setIfInBounds bi true) ((putAll d vs (M ++ [x]) a0).put (some db) (vb vs)) w') : KW P l n Q S (M.length + (f + 2)) listed0 a0 w0 :=
  wpK_makersX_go2 M x bi hM hx d hd db hdb vb F hT hready hlt hbn hrun hrunx hF hS hbuild hvb hend M.length [] M (fun _ => undef) (fun _ => 0) (fun _ => 0) w0 (List.Perm.refl _) rfl ⟨Below.refl _ _, (fun _ h => by cases h), (fun _ h => by cases h)⟩
theorem maker_allocX {d : Nat → Nat} {w0 : World} {mkv : Nat → Nat → Value} {cs : Nat → List Value} (i : Nat) {o : Oper} (ho : l.toArray[i]? = some o) (hg : o.guard = none) (hdst : o.dst = some (d i)) (t : TypeId)
    (hrun : ∀ (a : Act) (w : World), (execOp a.eval o).run P w = .ok (.value (.pointer (some ⟨w.heap.size, 0, none⟩))) (w.alloc (.cells (cs i).toArray t))) (hv : ∀ g, mkv i g = .pointer (some ⟨g, 0, none⟩)) :
    ∃ o, l.toArray[i]? = some o ∧ ∀ a w K', Below w0.heap.size w0 w →
      (∀ v w', FB mkv cs i v w.heap.size w'.heap.size w' → Below w.heap.size w w' → K' (a.put (some (d i)) v) w') → wpList P l.toArray (onNormal Q K') [o] a w :=
  ⟨o, ho, fun a w K' _ hK => by
    refine Go.Great.wpList_allocTo hg (some (d i)) hdst _ _ (hrun _ _) ?_
    show onNormal Q K' .normal _ _
    exact hK _ _ ⟨w.heap.size, (hv _).symm, Nat.le_refl _, by rw [World.size_alloc]; exact Nat.lt_succ_self _, Bo.new w t (cs i)⟩ (bel_alloc (Below.refl _ _) _)⟩
end
end Go.Proofs.YtngjakahanmepaaGreatDoor
