/- Part 19 of the proof of TopRights: Maps that the call made: block b holds f kl at the key kl. No walk. right.Roster: what its first loop keeps. No walk. right.Roster. The law's granted. The law of the rights: what a day gives. No walk. -/
import Derived.Test.YtngjakahanmepaaGreatDoorM17
import Derived.Maps.OwnOps
import Derived.Maps.OwnSet
namespace Go.Proofs.YtngjakahanmepaaGreatDoor
open Go.RowKit Go.Maps
set_option linter.unusedVariables false
set_option linter.unusedSimpArgs false
/-- an element, whatever it is -/
def heldE (v : Value) : Option (DataW Value × List MemPlace) := some (.held v, [])
structure MapIs (P : Program) (k : TypeId) (z : Value) (w : World) (b n : Nat) (f : Lit → Value) : Prop where
  owns : ∃ D : DataW Value, w.ownsMap P k heldE b n D ∧ ∀ kl, D.atKey kl (.held z) = .held (f kl)
theorem MapIs.made (P : Program) (k : TypeId) (z : Value) (w : World) : MapIs P k z (w.alloc (.map #[] 0)) w.heap.size 0 (fun _ => z) :=
  ⟨_, World.ownsMap_made w P k heldE, fun _ => rfl⟩
theorem MapIs.madeAt (P : Program) (k : TypeId) (z : Value) {w : World} {b : Nat} (h : w.heap.size = b) : MapIs P k z (w.alloc (.map #[] 0)) b 0 (fun _ => z) := h ▸ MapIs.made P k z w
theorem MapIs.lt {P : Program} {k : TypeId} {z : Value} {w : World} {b n : Nat} {f : Lit → Value} (h : MapIs P k z w b n f) : b < w.heap.size := by
  obtain ⟨D, h, _⟩ := h.owns
  exact h.lt
theorem MapIs.mono {P : Program} {k : TypeId} {z : Value} {w : World} {b n n' : Nat} {f : Lit → Value} (h : MapIs P k z w b n f) (hn : n ≤ n') : MapIs P k z w b n' f := by
  obtain ⟨D, h, h2⟩ := h.owns
  exact ⟨D, h.mono hn, h2⟩
/-- other blocks may turn -/
theorem MapIs.same {P : Program} {k : TypeId} {z : Value} {w w' : World} {b n : Nat} {f : Lit → Value} (h : MapIs P k z w b n f) (e : w'.heap[b]? = w.heap[b]?) : MapIs P k z w' b n f := by
  obtain ⟨D, ⟨es, clock, hb, F, hs, hD⟩, h2⟩ := h.owns
  exact ⟨D, ⟨es, clock, e.trans hb, F, hs, hD⟩, h2⟩
theorem MapIs.next {P : Program} {k : TypeId} {z : Value} {w w' : World} {b n : Nat} {f : Lit → Value} (h : MapIs P k z w b n f) (hb : Below w.heap.size w w') : MapIs P k z w' b n f := h.same (hb.block b h.lt)
theorem MapIs.grown {P : Program} {k : TypeId} {z : Value} {w w' : World} {b n : Nat} {f : Lit → Value} {row : Option Nat} (h : MapIs P k z w b n f) (hg : w.grownBy w' row) (hne : some b ≠ row) : MapIs P k z w' b n f := h.same (hg.block b h.lt hne)
/-- 'm[k]' at the operation -/
theorem wpList_lookup_held {P : Program} {ops : Array Oper} {rest : List Oper} {o : Oper} {a : Act} {w : World} {Q : Exit → Act → World → Prop}
    (hg : o.guard = none) (m x : Operand) (t : TypeId) (hop : o.op = Op.lookup t m x false)
    (k e : TypeId) (K : Keyed P k) (ht : P.underlying t = some (.map k e)) (z : Value) (hz : (zeroValue e).run P w = .ok z w) (b n : Nat) (f : Lit → Value)
    (hm : a.eval m = .map (some b)) (hown : MapIs P k z w b n f) (key : Value) (kl : Lit) (hx : a.eval x = key) (hkey : keyOf P k key = some kl)
    (hK : wpList P ops Q rest (a.put o.dst (f kl)) w) :
    wpList P ops Q (o :: rest) a w := by
  refine wpList_plain hg fun K' hK' => ?_
  obtain ⟨D, hD, hf⟩ := hown.owns
  obtain ⟨v, ps, hrun, hat⟩ := hD.lookup (zd := .held z) (zp := []) K ht hz rfl hkey
  have : v = f kl := by
    have h1 : heldE v = some (.held v, []) := rfl
    rw [h1] at hat
    have := (Prod.mk.inj (Option.some.inj hat)).1
    rw [hf kl] at this
    exact DataW.held.inj this
  subst this
  unfold Oper.wp
  simp [execOp, hop, hm, hx, hrun, Result.andThen]
  exact hK' _ _ hK
open Classical in
/-- the map behind a store -/
noncomputable def upd (f : Lit → Value) (kl : Lit) (v : Value) : Lit → Value := fun k => if k = kl then v else f k
theorem upd_same (f : Lit → Value) (kl : Lit) (v : Value) : upd f kl v kl = v := by simp [upd]
theorem upd_other (f : Lit → Value) {kl k : Lit} (v : Value) (h : k ≠ kl) : upd f kl v k = f k := by simp [upd, h]
/-- 'm[k] = v' at the operation -/
theorem wpList_mapUpdate_held {P : Program} {ops : Array Oper} {rest : List Oper} {o : Oper} {a : Act} {w : World} {Q : Exit → Act → World → Prop}
    (hg : o.guard = none) (m x y : Operand) (t : TypeId) (hop : o.op = Op.mapUpdate t m x y)
    (k e : TypeId) (K : Keyed P k) (ht : P.underlying t = some (.map k e)) (z : Value) (b n : Nat) (f : Lit → Value)
    (hm : a.eval m = .map (some b)) (hown : MapIs P k z w b n f) (hn : n < maxLen) (key val : Value) (kl : Lit) (hx : a.eval x = key) (hv : a.eval y = val) (hkey : keyOf P k key = some kl)
    (hK : ∀ w', MapIs P k z w' b (n + 1) (upd f kl val) → w.grownBy w' (some b) → wpList P ops Q rest (a.put o.dst undef) w') :
    wpList P ops Q (o :: rest) a w := by
  obtain ⟨D, hD, hf⟩ := hown.owns
  refine wpList_mapUpdate_own w hg m x y t hop k e K ht heldE b n D hm hD hn key val kl hx hv hkey (.held val) [] rfl fun w' h1 h2 => hK w' ⟨_, h1, fun k2 => ?_⟩ h2
  by_cases hk : k2 = kl
  · subst hk
    rw [atKey_put_same hD.isMap (K.key hkey), upd_same]
  · rw [atKey_put_other hk, upd_other f val hk, hf]
end Go.Proofs.YtngjakahanmepaaGreatDoor
namespace Go.Proofs.YtngjakahanmepaaGreatDoor
open Go.RowKit Go.Maps
set_option linter.unusedVariables false
set_option linter.unusedSimpArgs false
theorem info_deal : (Tryz.prog.info? 74).map (fun i => (i.zero, i.size, i.bytes)) = some (some (.agg #[.int .i64 0, .int .i64 0, .int .i64 0, .int .i64 0, .int .i64 0, .int .i64 0, .int .i64 0, .int .i64 0, .int .i64 0, .int .i64 0, .int .i64 0, .int .i64 0, .int .i64 0]), 13, 104) := by kernel_rfl
theorem law_int : Keyed Tryz.prog 3 := int_keyed Tryz.underlying3
theorem zero_deals (w : World) : (zeroValue 32).run Tryz.prog w = .ok (.slice none 0 0) w := by kernel_rfl
theorem zero_bool (w : World) : (zeroValue 4).run Tryz.prog w = .ok (.bool false) w := by kernel_rfl
def ik (i : Int) : Lit := .int .i64 i
theorem ik_inj {i j : Int} (h : ik i = ik j) : i = j := by unfold ik at h; cases h; rfl
theorem key_int {i : Int} (h : Fit i) : keyOf Tryz.prog 3 (.int .i64 i) = some (ik i) := keyOf_int_mk Tryz.underlying3 (WalkArith.wf_i64 h)
theorem own_ge {w : World} {base : Nat} {e : TypeId} {size : Nat} {v : Value} {n : Nat} {xs : List Value} (h : w.ownsRow base e size v n xs) {g : Nat} (hg : v.ownBlock = some g) : base ≤ g ∧ g < w.heap.size := World.ownsRow.lt h g hg
/-- the deals that are kept by number, the numbers that are seen, the grants -/
structure Ros (w : World) (bc : List Value) (k : Nat) (f1 f2 : Lit → Value) (gs : List Rt) (v : Value) (W : World) : Prop where
  bel : Below w.heap.size w W
  sz : w.heap.size + 1 + 1 + 1 ≤ W.heap.size
  box : W.rangeAt w.heap.size 0 bc
  m1 : MapIs Tryz.prog 3 (.slice none 0 0) W (w.heap.size + 1) k f1
  m2 : MapIs Tryz.prog 3 (.bool false) W (w.heap.size + 1 + 1) k f2
  rows : ∀ i, ∃ ds : List Dl, ds.length ≤ k ∧ W.ownsRow (w.heap.size + 1 + 1 + 1) 74 13 (f1 (ik i)) ds.length (dlCells ds)
  apart : ∀ i j, i ≠ j → Apart (f1 (ik i)) (f1 (ik j))
  own : W.ownsRow (w.heap.size + 1 + 1 + 1) 46 9 v gs.length (rtCells gs)
  gap : ∀ i, Apart v (f1 (ik i))
  len : gs.length ≤ k
  nd : (gs.map Rt.id).Nodup
  rate : ∀ r ∈ gs, (0 ≤ r.rate ∧ r.rate ≤ 1125899906842624) ∧ Fit r.id
  seen : ∀ r ∈ gs, f2 (ik r.id) = .bool true
  isb : ∀ i, ∃ b, f2 (ik i) = .bool b
theorem Apart.none {u v : Value} (h : u.ownBlock = none) : Apart u v := fun g a _ => by rw [h] at a; cases a
theorem Ros.start {w W : World} {bc : List Value} (hb : Below w.heap.size w W) (hs : w.heap.size + 1 + 1 + 1 ≤ W.heap.size) (hx : W.rangeAt w.heap.size 0 bc)
    (h1 : MapIs Tryz.prog 3 (.slice none 0 0) W (w.heap.size + 1) 0 (fun _ => .slice none 0 0)) (h2 : MapIs Tryz.prog 3 (.bool false) W (w.heap.size + 1 + 1) 0 (fun _ => .bool false)) :
    Ros w bc 0 (fun _ => .slice none 0 0) (fun _ => .bool false) [] (.slice none 0 0) W :=
  ⟨hb, hs, hx, h1, h2, fun _ => ⟨[], Nat.le_refl _, World.ownsRow_nil _ _ _ _⟩, fun _ _ _ => Apart.none rfl, World.ownsRow_nil _ _ _ _, fun _ => Apart.none rfl, Nat.le_refl _, List.nodup_nil, (fun _ h => by cases h), (fun _ h => by cases h), fun _ => ⟨false, rfl⟩⟩
theorem Ros.next {w W W' : World} {bc : List Value} {k : Nat} {f1 f2 : Lit → Value} {gs : List Rt} {v : Value} (h : Ros w bc k f1 f2 gs v W) (hb : Below W.heap.size W W') : Ros w bc k f1 f2 gs v W' :=
  ⟨below_next h.bel hb, Nat.le_trans h.sz hb.size, range_bel h.box ⟨W', hb⟩, h.m1.next hb, h.m2.next hb, fun i => by
    obtain ⟨ds, a, b⟩ := h.rows i
    exact ⟨ds, a, own_below b hb⟩, h.apart, own_below h.own hb, h.gap, h.len, h.nd, h.rate, h.seen, h.isb⟩
theorem Ros.keep {w W : World} {bc : List Value} {k : Nat} {f1 f2 : Lit → Value} {gs : List Rt} {v : Value} (h : Ros w bc k f1 f2 gs v W) : Ros w bc (k + 1) f1 f2 gs v W :=
  ⟨h.bel, h.sz, h.box, h.m1.mono (Nat.le_succ _), h.m2.mono (Nat.le_succ _), fun i => by
    obtain ⟨ds, a, b⟩ := h.rows i
    exact ⟨ds, Nat.le_succ_of_le a, b⟩, h.apart, h.own, h.gap, Nat.le_succ_of_le h.len, h.nd, h.rate, h.seen, h.isb⟩
theorem range_grown {W W' : World} {row : Option Nat} {b : Nat} {cs : List Value} (hr : W.rangeAt b 0 cs) (hlt : b < W.heap.size) (hg : W.grownBy W' row) (hne : some b ≠ row) : W'.rangeAt b 0 cs := fun j u hu => by
  have h1 := hr j u hu
  have e := hg.block b hlt hne
  unfold World.cell? at h1 ⊢
  rw [e]; exact h1
/-- a deal about a number -/
theorem Ros.about {w W w1 w2 w3 : World} {bc : List Value} {k : Nat} {f1 f2 : Lit → Value} {gs : List Rt} {v : Value} (h : Ros w bc k f1 f2 gs v W) (i : Int) {ds : List Dl} (hds : ds.length ≤ k) (d : Dl) {u : Value}
    (hb1 : Below W.heap.size W w1) (ho : w2.ownsRow (w.heap.size + 1 + 1 + 1) 74 13 u (ds.length + 1) (dlCells ds ++ dlc d)) (hg : w1.grownBy w2 (f1 (ik i)).ownBlock)
    (hat : u.ownBlock = (f1 (ik i)).ownBlock ∨ u.ownBlock = some w1.heap.size)
    (hm : MapIs Tryz.prog 3 (.slice none 0 0) w3 (w.heap.size + 1) (k + 1) (upd f1 (ik i) u)) (hg3 : w2.grownBy w3 (some (w.heap.size + 1))) : Ros w bc (k + 1) (upd f1 (ik i) u) f2 gs v w3 := by
  have h1 := h.next hb1
  clear h hb1
  have hge : ∀ g, (f1 (ik i)).ownBlock = some g → w.heap.size + 1 + 1 + 1 ≤ g := fun g hgg => by
    obtain ⟨ds', _, o⟩ := h1.rows i
    exact (own_ge o hgg).1
  have hs2 := hg.size
  have hs3 := hg3.size
  have hsz := h1.sz
  have hkeep : ∀ {e : TypeId} {size : Nat} {x : Value} {n : Nat} {xs : List Value}, w1.ownsRow (w.heap.size + 1 + 1 + 1) e size x n xs → Apart x (f1 (ik i)) → w3.ownsRow (w.heap.size + 1 + 1 + 1) e size x n xs := fun {e size x n xs} o ha => by
    have o2 := World.ownsRow.kept o hg (by
      rcases hx : x.ownBlock with _ | g
      · exact .inl rfl
      · exact .inr fun e2 => ha g hx e2.symm)
    refine World.ownsRow.kept o2 hg3 ?_
    rcases hx : x.ownBlock with _ | g
    · exact .inl rfl
    · refine .inr fun e2 => ?_
      have := (own_ge o hx).1
      cases e2; omega
  have hu3 : w3.ownsRow (w.heap.size + 1 + 1 + 1) 74 13 u (ds.length + 1) (dlCells ds ++ dlc d) := by
    refine World.ownsRow.kept ho hg3 ?_
    rcases hx : u.ownBlock with _ | g
    · exact .inl rfl
    · refine .inr fun e2 => ?_
      have := (own_ge ho hx).1
      cases e2; omega
  have hap : ∀ x : Value, (∀ g, x.ownBlock = some g → g < w1.heap.size) → Apart x (f1 (ik i)) → Apart x u := fun x hlt ha g ha1 ha2 => by
    rcases hat with e | e
    · exact ha g ha1 (by rw [← e]; exact ha2)
    · rw [e] at ha2; cases ha2
      have := hlt _ ha1
      omega
  refine ⟨below_grown (below_grown h1.bel hg (fun g e => by have := hge g e; omega)) hg3 (fun g e => by cases e; omega), by omega, ?_, hm, ?_, fun j => ?_, fun a b hab => ?_, hkeep h1.own (h1.gap i), fun j => ?_, Nat.le_succ_of_le h1.len, h1.nd, h1.rate, h1.seen, h1.isb⟩
  · refine range_grown (range_grown h1.box (by omega) hg (fun e => by have := hge _ e.symm; omega)) (by omega) hg3 (fun e => by have := Option.some.inj e; omega)
  · exact ((h1.m2.grown hg (fun e => by have := hge _ e.symm; omega)).grown hg3 (fun e => by have := Option.some.inj e; omega)).mono (Nat.le_succ _)
  · by_cases e : j = i
    · subst e
      rw [upd_same]
      exact ⟨ds ++ [d], by simpa using hds, by simpa [dlCells] using hu3⟩
    · rw [upd_other _ _ (fun h => e (ik_inj h))]
      obtain ⟨ds', a, o⟩ := h1.rows j
      exact ⟨ds', Nat.le_succ_of_le a, hkeep o (h1.apart j i e)⟩
  · have hlt : ∀ j g, (f1 (ik j)).ownBlock = some g → g < w1.heap.size := fun j g hx => by
      obtain ⟨_, _, o⟩ := h1.rows j
      exact (own_ge o hx).2
    by_cases ea : a = i
    · subst ea
      rw [upd_same, upd_other _ _ (fun h => hab (ik_inj h).symm)]
      exact (hap _ (hlt b) (h1.apart b a (Ne.symm hab))).symm
    · rw [upd_other _ _ (fun h => ea (ik_inj h))]
      by_cases eb : b = i
      · subst eb
        rw [upd_same]
        exact hap _ (hlt a) (h1.apart a b hab)
      · rw [upd_other _ _ (fun h => eb (ik_inj h))]
        exact h1.apart a b hab
  · by_cases e : j = i
    · subst e
      rw [upd_same]
      exact hap _ (fun g hx => (own_ge h1.own hx).2) (h1.gap j)
    · rw [upd_other _ _ (fun h => e (ik_inj h))]
      exact h1.gap j
/-- a number that is granted for the first time -/
theorem Ros.grant {w W w1 w2 w3 : World} {bc : List Value} {k : Nat} {f1 f2 : Lit → Value} {gs : List Rt} {v : Value} (h : Ros w bc k f1 f2 gs v W) (r : Rt) (hr : (0 ≤ r.rate ∧ r.rate ≤ 1125899906842624) ∧ Fit r.id) (hno : f2 (ik r.id) = .bool false) {u : Value}
    (hm : MapIs Tryz.prog 3 (.bool false) w1 (w.heap.size + 1 + 1) (k + 1) (upd f2 (ik r.id) (.bool true))) (hg1 : W.grownBy w1 (some (w.heap.size + 1 + 1)))
    (hb2 : Below w1.heap.size w1 w2) (ho : w3.ownsRow (w.heap.size + 1 + 1 + 1) 46 9 u (gs.length + 1) (rtCells gs ++ rtc r)) (hg3 : w2.grownBy w3 v.ownBlock) (hat : u.ownBlock = v.ownBlock ∨ u.ownBlock = some w2.heap.size) :
    Ros w bc (k + 1) f1 (upd f2 (ik r.id) (.bool true)) (gs ++ [r]) u w3 := by
  have hge : ∀ g, v.ownBlock = some g → w.heap.size + 1 + 1 + 1 ≤ g := fun g hgg => (own_ge h.own hgg).1
  have hs1 := hg1.size
  have hs2 := hb2.size
  have hs3 := hg3.size
  have hsz := h.sz
  have hkeep : ∀ {e : TypeId} {size : Nat} {x : Value} {n : Nat} {xs : List Value}, W.ownsRow (w.heap.size + 1 + 1 + 1) e size x n xs → Apart v x → w3.ownsRow (w.heap.size + 1 + 1 + 1) e size x n xs := fun {e size x n xs} o ha => by
    have o1 := World.ownsRow.kept o hg1 (by
      rcases hx : x.ownBlock with _ | g
      · exact .inl rfl
      · refine .inr fun e2 => ?_
        have := (own_ge o hx).1
        cases e2; omega)
    refine World.ownsRow.kept (own_below o1 hb2) hg3 ?_
    rcases hx : x.ownBlock with _ | g
    · exact .inl rfl
    · exact .inr fun e2 => ha g e2.symm hx
  have hnot : r.id ∉ gs.map Rt.id := fun hm => by
    obtain ⟨x, hx, e⟩ := List.mem_map.1 hm
    have := h.seen x hx
    rw [e, hno] at this
    cases this
  refine ⟨below_grown (below_next (below_grown h.bel hg1 (fun g e => by cases e; omega)) hb2) hg3 (fun g e => by have := hge g e; omega), by omega, ?_, ?_, ?_, fun i => ?_, h.apart, ?_, fun i => ?_, by simpa using h.len, ?_, fun x hx => ?_, fun x hx => ?_, fun i => ?_⟩
  · exact range_grown (W := w2) (range_bel (range_grown h.box (by omega) hg1 (fun e => by have := Option.some.inj e; omega)) ⟨w2, hb2⟩) (by omega) hg3 (fun e => by have := hge _ e.symm; omega)
  · exact (((h.m1.grown hg1 (fun e => by have := Option.some.inj e; omega)).next hb2).grown hg3 (fun e => by have := hge _ e.symm; omega)).mono (Nat.le_succ _)
  · exact (hm.next hb2).grown hg3 (fun e => by have := hge _ e.symm; omega)
  · obtain ⟨ds', a, o⟩ := h.rows i
    exact ⟨ds', Nat.le_succ_of_le a, hkeep o (h.gap i)⟩
  · have : rtCells (gs ++ [r]) = rtCells gs ++ rtc r := by simp [rtCells]
    rw [this]
    simpa using ho
  · intro g a b
    rcases hat with e | e
    · exact h.gap i g (by rw [← e]; exact a) b
    · rw [e] at a; cases a
      obtain ⟨ds', _, o⟩ := h.rows i
      have := (own_ge o b).2
      omega
  · rw [List.map_append, List.nodup_append]
    exact ⟨h.nd, by simp, fun a ha b hb e => by
      simp at hb
      subst hb e
      exact hnot ha⟩
  · rcases List.mem_append.1 hx with hx | hx
    · exact h.rate x hx
    · simp at hx; subst hx; exact hr
  · rcases List.mem_append.1 hx with hx | hx
    · by_cases e : x.id = r.id
      · rw [e, upd_same]
      · rw [upd_other _ _ (fun h => e (ik_inj h))]; exact h.seen x hx
    · simp at hx; subst hx; rw [upd_same]
  · by_cases e : i = r.id
    · subst e; exact ⟨true, upd_same _ _ _⟩
    · obtain ⟨b, hb⟩ := h.isb i
      exact ⟨b, by rw [upd_other _ _ (fun h => e (ik_inj h))]; exact hb⟩
/-- the rights that are left -/
structure Out (gs : List Rt) (k : Nat) (os : List Rt) : Prop where
  sub : (os.map Rt.id).Sublist ((gs.take k).map Rt.id)
  rate : ∀ r ∈ os, 0 ≤ r.rate ∧ r.rate ≤ 1125899906842624
theorem Out.start (gs : List Rt) : Out gs 0 [] := ⟨by simp, fun _ h => by cases h⟩
theorem Out.len {gs os : List Rt} {k : Nat} (h : Out gs k os) : os.length ≤ k := by
  have := h.sub.length_le
  rw [List.length_map, List.length_map, List.length_take] at this
  omega
theorem take_ids {gs : List Rt} {k : Nat} (hk : k < gs.length) : (gs.take (k + 1)).map Rt.id = (gs.take k).map Rt.id ++ [(rt gs k).id] := by
  rw [List.take_succ_eq_append_getElem hk, List.map_append, rt_at hk]; rfl
theorem Out.skip {gs os : List Rt} {k : Nat} (h : Out gs k os) (hk : k < gs.length) : Out gs (k + 1) os := ⟨by rw [take_ids hk]; exact List.Sublist.trans h.sub (List.sublist_append_left _ _), h.rate⟩
theorem Out.add {gs os : List Rt} {k : Nat} (h : Out gs k os) (hk : k < gs.length) {r : Rt} (hi : r.id = (rt gs k).id) (hr : 0 ≤ r.rate ∧ r.rate ≤ 1125899906842624) : Out gs (k + 1) (os ++ [r]) :=
  ⟨by rw [take_ids hk, List.map_append, ← hi]; exact List.Sublist.append h.sub (List.Sublist.refl _), fun x hx => by
    rcases List.mem_append.1 hx with hx | hx
    · exact h.rate x hx
    · simp at hx; subst hx; exact hr⟩
theorem Out.nd {gs os : List Rt} {k : Nat} (h : Out gs k os) (hn : (gs.map Rt.id).Nodup) : (os.map Rt.id).Nodup :=
  List.Nodup.sublist h.sub (List.Nodup.sublist ((List.take_sublist k gs).map _) hn)
end Go.Proofs.YtngjakahanmepaaGreatDoor
namespace Go.Proofs.YtngjakahanmepaaGreatDoor
open Go.RowKit Go.Maps
set_option linter.unusedVariables false
set_option linter.unusedSimpArgs false
def RoR (w : World) (bc : List Value) (n : Nat) (s11 s24 : Value) (wr : World) : Prop := ∃ (k : Nat) (f1 f2 : Lit → Value) (gs : List Rt), k ≤ n ∧ s24 = .int .i64 (k : Int) ∧ Ros w bc k f1 f2 gs s11 wr
def OuR (W : World) (gs : List Rt) (s15 s67 : Value) (wr : World) : Prop := ∃ (k : Nat) (os : List Rt), k ≤ gs.length ∧ s67 = .int .i64 (k : Int) ∧ Hid (Out gs k os) ∧ Below W.heap.size W wr ∧ wr.ownsRow W.heap.size 46 9 s15 os.length (rtCells os)
/-- the rights that are in force: in strict order -/
structure RosPost (w : World) (e : Ending) (w' : World) : Prop where
  ans : ∃ (rs : List Rt) (A : Option Addr) (c : Nat), e = .returned (.slice A rs.length c) ∧ Rd w' A (rtCells rs) ∧ rs.length ≤ 8 ∧ (∀ k, k < rs.length → 0 ≤ (rt rs k).rate ∧ (rt rs k).rate ≤ 1125899906842624) ∧ ∀ i j, i < j → j < rs.length → Sen (rt rs i) (rt rs j)
  bel : Below w.heap.size w w'
theorem deal_right {W : World} {nb : Nat} {D : Dl} (h : W.rangeAt nb 0 (dlc D)) : W.rangeAt nb 2 (rtc D.r) := fun j v hv => by
  have hj : j < 9 := (List.getElem?_eq_some_iff.1 hv).1
  have := h (2 + j) v (by
    rw [Nat.add_comm, show dlc D = [.int .i64 D.kind, .int .i64 D.known] ++ rtc D.r ++ [.int .i64 D.df, .int .i64 D.du] from rfl, List.append_assoc, List.getElem?_append_right (by simp), List.getElem?_append_left (by simpa [rtc] using hj)]
    simpa using hv)
  simpa using this
set_option maxHeartbeats 32000000 in
set_option maxRecDepth 100000 in
theorem roster_any (d0 d2 d4 d5 d6 d7 d8 d9 d10 : Value) (A B : Option Addr) (on oc cb n : Nat) (DA : Option Addr) (dc : Nat) (ds : List Dl) (day kno : Int) (hn : ds.length ≤ 8) (hf : ∀ k, k < ds.length → Fit (dl ds k).r.id) (w : World) (hM : Mon w) (hd : Rd w DA (dlCells ds)) :
    Calls Tryz.prog 8 #[.agg #[d0, .slice A on oc, d2, .slice B n cb, d4, d5, d6, d7, d8, d9, d10], .slice DA ds.length dc, .int .i64 day, .int .i64 kno] w (RosPost w) := by
  obtain ⟨i1, hj0, hj1, hj2, hj3⟩ := info_parts info_deal
  obtain ⟨i2, hk0, hk1, hk2, hk3⟩ := info_parts info_right
  have INFD := Lib.hid (And.intro hj0 (And.intro hj1 (And.intro hj2 hj3)))
  have INFR := Lib.hid (And.intro hk0 (And.intro hk1 (And.intro hk2 hk3)))
  clear hj0 hj1 hj2 hj3 hk0 hk1 hk2 hk3
  have HM := Lib.hid (fun (W : World) (hb : Below w.heap.size w W) => (show Mon W from hM.below (Nat.le_refl _) hb))
  have HD := Lib.hid (fun (W : World) (hb : Below w.heap.size w W) => hd.below (Nat.le_refl _) hb)
  have HF := Lib.hid hf
  clear hM hd hf
  have hmm := @run_makeMap Tryz.prog
  go_enter Tryz.func8, Tryz.ntmps8
  go_upto_region 3 with fail
  refine wp_rebase _ (fun V hV x0 => ?_)
  have HR0 := Lib.hid (show Ros w [d0, .slice A on oc, d2, .slice B n cb, d4, d5, d6, d7, d8, d9, d10] 0 (fun _ => .slice none 0 0) (fun _ => .bool false) [] (.slice none 0 0) V by
    rw [hV]
    refine Ros.start (bel_alloc (bel_alloc (bel_alloc (Below.refl _ _) _) _) _) (by simp only [World.size_alloc]; exact Nat.le_refl _) ?_ ?_ ?_
    · exact range_bel (range_new w 31 [d0, .slice A on oc, d2, .slice B n cb, d4, d5, d6, d7, d8, d9, d10]) ⟨_, bel_alloc (bel_alloc (Below.refl _ _) _) _⟩
    · exact (MapIs.madeAt _ _ _ (by rw [World.size_alloc])).next (bel_alloc (Below.refl _ _) _)
    · exact MapIs.madeAt _ _ _ (by simp only [World.size_alloc]))
  have HRX := Lib.hid (HR0.out.next x0.2)
  clear hV HR0
  go_wp2_with fail
  go_loopw [11, 24] (fun s11 s24 wr => RoR w [d0, .slice A on oc, d2, .slice B n cb, d4, d5, d6, d7, d8, d9, d10] ds.length s11 s24 wr) (fun _ i _ => ds.length - (intOf i).toNat)
  case atStart => exact ⟨0, _, _, _, by omega, rfl, HRX.out⟩
  case round =>
    clear HRX
    obtain ⟨k, f1, f2, gs, hk, rfl, hro⟩ := hrel
    have HRO := Lib.hid hro
    clear hro
    by_cases hlt : k < ds.length
    case neg =>
      have i4 : decide ((k : Int) < (ds.length : Int)) = false := decide_eq_false (by omega)
      obtain ⟨W1, rfl⟩ : ∃ W1, W1 = wr := ⟨_, rfl⟩
      have HGL := Lib.hid (show gs.length ≤ 8 from by have := HRO.out.len; omega)
      obtain ⟨GA, gc, rfl, -, hrd⟩ := own_slice HRO.out.own
      have HRD := Lib.hid hrd
      clear hrd HF HD
      go_wp2_with fail
      go_loopw [15, 67] (fun s15 s67 wr => OuR W1 gs s15 s67 wr) (fun _ i _ => gs.length - (intOf i).toNat)
      case atStart => exact ⟨0, [], by omega, rfl, Lib.hid (Out.start gs), Below.refl _ _, World.ownsRow_nil _ _ _ _⟩
      case round =>
        obtain ⟨q, os, hq, rfl, hout, hbw, how⟩ := hrel
        have HOUT := Lib.hid hout.out
        have HBW := Lib.hid hbw
        have HOW := Lib.hid how
        have hgl := HGL.out
        clear hout hbw how
        by_cases hlt2 : q < gs.length
        case neg =>
          have i5 : decide ((q : Int) < (gs.length : Int)) = false := decide_eq_false (by omega)
          obtain rfl : q = gs.length := by omega
          obtain ⟨OA, oc2, rfl, hOA, hor⟩ := own_slice HOW.out
          have HOL := Lib.hid (show os.length ≤ 8 from by have := HOUT.out.len; have := HGL.out; omega)
          have CO := Lib.hid (order_any OA oc2 os hOA (by have := HOL.out; omega) wr hor)
          have hos : (os.length : Int) ≤ 8 := by have := HOL.out; omega
          clear hOA hor HOW
          go_upto_region 25 with (first | (go_at_call 23; (with_reducible refine CO.out.mono ?_); rintro e w2 ⟨A2, c2, rfl, hA2, hlc, hr2, hb2⟩))
          have HSL := (sortR_spec os).1.length_eq
          have CL := Lib.hid (show Calls Tryz.prog 24 #[.slice A2 os.length c2] w2 (RtPost (sortR os) w2) from by
            have := rclone_any A2 c2 (sortR os) hA2 (by have := HOL.out; omega) w2 hr2
            rwa [HSL] at this)
          have HB2 := Lib.hid (show Below w.heap.size w w2 from below_next HRO.out.bel (below_next HBW.out hb2))
          have HFIN := Lib.hid (fun (A3 : Option Addr) (c3 : Nat) (w3 : World) (hb3 : Below w2.heap.size w2 w3) (hr3 : Rd w3 A3 (rtCells (sortR os))) => (show RosPost w (.returned (.slice A3 (sortR os).length c3)) w3 from ⟨⟨sortR os, A3, c3, rfl, hr3, by rw [HSL]; exact HOL.out, fun k hk => by
            rw [rt_at hk]
            exact HOUT.out.rate _ ((sortR_spec os).1.mem_iff.1 (List.getElem_mem hk)), sortR_strict (HOUT.out.nd HRO.out.nd)⟩, below_next HB2.out hb3⟩))
          have hl2 : (os.length : Int) ≤ (c2 : Int) := by omega
          have hl0 : (0 : Int) ≤ (os.length : Int) := by omega
          have hmin : min (os.length : Int) 200 = (os.length : Int) := by omega
          clear hr2 hb2 HSL CO
          go_wp2_with (first | (go_at_call 24; (with_reducible refine CL.out.mono ?_); rintro e w3 ⟨A3, c3, rfl, -, -, hr3, hb3⟩))
          go_ret
          exact HFIN.out A3 c3 w3 hb3 hr3
        have i5 : decide ((q : Int) < (gs.length : Int)) = true := decide_eq_true (by omega)
        have j1 : (0 : Int) ≤ (q : Int) := by omega
        have j2 : (q : Int) < (gs.length : Int) := by omega
        obtain ⟨rd, rb0, ro, rfl, hbs, hE, hrt⟩ := (HRD.out.below (Nat.le_refl _) HBW.out).rt hlt2
        have HGR := Lib.hid (show (0 ≤ (rt gs q).rate ∧ (rt gs q).rate ≤ 1125899906842624) ∧ Fit (rt gs q).id from HRO.out.rate _ (by rw [rt_at hlt2]; exact List.getElem_mem hlt2))
        have HSKIP := Lib.hid (HOUT.out.skip hlt2)
        have HADD := Lib.hid (fun (r : Rt) (h : r.id = (rt gs q).id) (h2 : 0 ≤ r.rate ∧ r.rate ≤ 1125899906842624) => HOUT.out.add hlt2 h h2)
        have HOL := Lib.hid (show os.length ≤ 8 from by have := HOUT.out.len; have := HGL.out; omega)
        obtain ⟨X, hX⟩ : ∃ X, rt gs q = X := ⟨_, rfl⟩
        rw [hX] at hrt HGR HADD
        clear hX hbs
        obtain ⟨id, own, date, pla, rate, fr, un, bk, bt⟩ := X
        have HRG := Lib.hid (show wr.rangeAt rb0 ro [.int .i64 id, .int .i64 own, .int .i64 date, .int .i64 pla, .int .i64 rate, .int .i64 fr, .int .i64 un, .int .i64 bk, .int .i64 bt] from hrt)
        clear hrt
        go_upto_region 19 with (first
          | (with_reducible refine wpList_load_g 46 _ (by with_reducible rfl) rb0 ro (by with_unfolding_all rfl) (by with_unfolding_all rfl) _ _ HRG.out Tryz.underlying46 (by with_unfolding_all rfl) (by kernel_rfl) ?_)
          | (with_reducible refine wpList_store_new (z := [.int .i64 0, .int .i64 0, .int .i64 0, .int .i64 0, .int .i64 0, .int .i64 0, .int .i64 0, .int .i64 0, .int .i64 0]) (cs := [.int .i64 id, .int .i64 own, .int .i64 date, .int .i64 pla, .int .i64 rate, .int .i64 fr, .int .i64 un, .int .i64 bk, .int .i64 bt]) 46 _ _ (by with_reducible rfl) (by with_unfolding_all rfl) wr.heap.size (by with_reducible rfl) _ (by with_unfolding_all rfl) (by with_unfolding_all rfl) (by with_unfolding_all rfl) (by kernel_rfl) (by with_unfolding_all rfl) ?_))
        refine wp_rebase _ (fun X hX x1 => ?_)
        have hbX : Below wr.heap.size wr X := by rw [hX]; exact bel_alloc (Below.refl _ _) _
        have HB1 := Lib.hid (show Below W1.heap.size W1 x1.w from below_next HBW.out (below_next hbX x1.2))
        have HN := Lib.hid (show x1.w.rangeAt wr.heap.size 0 [.int .i64 id, .int .i64 own, .int .i64 date, .int .i64 pla, .int .i64 rate, .int .i64 fr, .int .i64 un, .int .i64 bk, .int .i64 bt] from range_bel (show X.rangeAt wr.heap.size 0 [.int .i64 id, .int .i64 own, .int .i64 date, .int .i64 pla, .int .i64 rate, .int .i64 fr, .int .i64 un, .int .i64 bk, .int .i64 bt] by rw [hX]; exact range_new wr 46 [.int .i64 id, .int .i64 own, .int .i64 date, .int .i64 pla, .int .i64 rate, .int .i64 fr, .int .i64 un, .int .i64 bk, .int .i64 bt]) x1)
        have HOW1 := Lib.hid (show x1.w.ownsRow W1.heap.size 46 9 u15 os.length (rtCells os) from own_below HOW.out (below_next hbX x1.2))
        obtain ⟨nb, hnb⟩ : ∃ n, wr.heap.size = n := ⟨_, rfl⟩
        rw [hnb] at HN ⊢
        have CS := Lib.hid (season_any id own date pla rate fr un bk bt day x1.w (HM.out x1.w (below_next HRO.out.bel HB1.out)))
        clear hX hnb hbX HRG hE HBW HOW HOUT
        go_upto_region 20 with (first
          | (with_reducible refine wpList_load_g 46 _ (by with_reducible rfl) nb 0 (by with_unfolding_all rfl) (by with_unfolding_all rfl) _ _ HN.out Tryz.underlying46 (by with_unfolding_all rfl) (by kernel_rfl) ?_)
          | (go_at_call 21; (with_reducible refine CS.out.mono ?_); rintro e w2 ⟨⟨b, rfl⟩, hbl⟩; cases b))
        · have HB2 := Lib.hid (below_next HB1.out hbl)
          have HOW2 := Lib.hid (own_below HOW1.out hbl)
          clear hbl CS HN HB1 HOW1
          go_wp2_with fail
          go_roundw
          case rel => exact ⟨q + 1, os, by omega, by go_num, Lib.hid HSKIP.out, HB2.out, HOW2.out⟩
          case measure => simp [intOf]; omega
        have HB2 := Lib.hid (show Below W1.heap.size W1 w2 from below_next HB1.out hbl)
        have HR2 := Lib.hid (HRO.out.next HB2.out)
        have HOW2 := Lib.hid (own_below HOW1.out hbl)
        have HN2 := Lib.hid (show w2.rangeAt nb 0 [.int .i64 id, .int .i64 own, .int .i64 date, .int .i64 pla, .int .i64 rate, .int .i64 fr, .int .i64 un, .int .i64 bk, .int .i64 bt] from range_bel HN.out ⟨w2, hbl⟩)
        have m0 : w2.cell? ⟨nb, 0, none⟩ = some (.int .i64 id) := HN2.out 0 _ rfl
        clear hbl CS HN HB1 HOW1
        obtain ⟨ds', hl', ho'⟩ := HR2.out.rows id
        obtain ⟨CA, cc, hcv, -, hcr⟩ := own_slice ho'
        have CC := Lib.hid (change_any CA cc ds' id own date pla rate fr un bk bt (by omega) w2 hcr)
        clear ho' hcr
        go_upto_region 21 with (first
          | (at_lookup; refine wpList_lookup_held rfl _ _ 76 rfl 3 32 law_int Tryz.underlying76 _ (zero_deals _) (w.heap.size + 1) _ f1 (by rfl) HR2.out.m1 _ _ (by rfl) (key_int HGR.out.2) ?_; rw [hcv])
          | (with_reducible refine wpList_load_g 46 _ (by with_reducible rfl) nb 0 (by with_unfolding_all rfl) (by with_unfolding_all rfl) _ _ HN2.out Tryz.underlying46 (by with_unfolding_all rfl) (by kernel_rfl) ?_)
          | (go_at_call 22; (with_reducible refine CC.out.mono ?_); rintro e w3 ⟨⟨⟨id', own', date', pla', rate', fr', un', bk', bt'⟩, b, rfl, hch⟩, hbl⟩)
          | (with_reducible refine wpList_store_new (z := [.int .i64 0, .int .i64 0, .int .i64 0, .int .i64 0, .int .i64 0, .int .i64 0, .int .i64 0, .int .i64 0, .int .i64 0]) (cs := [.int .i64 id', .int .i64 own', .int .i64 date', .int .i64 pla', .int .i64 rate', .int .i64 fr', .int .i64 un', .int .i64 bk', .int .i64 bt']) 46 _ _ (by with_reducible rfl) (by with_unfolding_all rfl) w3.heap.size (by with_reducible rfl) _ (by with_unfolding_all rfl) (by with_unfolding_all rfl) (by with_unfolding_all rfl) (by kernel_rfl) (by with_unfolding_all rfl) ?_))
        have HB3 := Lib.hid (show Below W1.heap.size W1 w3 from below_next HB2.out hbl)
        have HOW3 := Lib.hid (own_below HOW2.out hbl)
        have HCH := Lib.hid hch
        clear hbl CC HN2 HB2 HOW2 hch m0
        refine wp_rebase _ (fun X hX x1 => ?_)
        have hbX : Below w3.heap.size w3 X := by rw [hX]; exact bel_alloc (Below.refl _ _) _
        have HB4 := Lib.hid (show Below W1.heap.size W1 x1.w from below_next HB3.out (below_next hbX x1.2))
        have HOW4 := Lib.hid (show x1.w.ownsRow W1.heap.size 46 9 u15 os.length (rtCells os) from own_below HOW3.out (below_next hbX x1.2))
        have HN4 := Lib.hid (show x1.w.rangeAt w3.heap.size 0 [.int .i64 id', .int .i64 own', .int .i64 date', .int .i64 pla', .int .i64 rate', .int .i64 fr', .int .i64 un', .int .i64 bk', .int .i64 bt'] from range_bel (show X.rangeAt w3.heap.size 0 [.int .i64 id', .int .i64 own', .int .i64 date', .int .i64 pla', .int .i64 rate', .int .i64 fr', .int .i64 un', .int .i64 bk', .int .i64 bt'] by rw [hX]; exact range_new w3 46 [.int .i64 id', .int .i64 own', .int .i64 date', .int .i64 pla', .int .i64 rate', .int .i64 fr', .int .i64 un', .int .i64 bk', .int .i64 bt']) x1)
        obtain ⟨mb, hmb⟩ : ∃ n, w3.heap.size = n := ⟨_, rfl⟩
        rw [hmb] at HN4 ⊢
        clear hX hbX hmb HB3 HOW3
        cases b
        case false =>
          go_wp2_with fail
          go_roundw
          case rel => exact ⟨q + 1, os, by omega, by go_num, Lib.hid HSKIP.out, HB4.out, HOW4.out⟩
          case measure => simp [intOf]; omega
        have hch := HCH.out rfl
        have HADD2 := Lib.hid (HADD.out ⟨id', own', date', pla', rate', fr', un', bk', bt'⟩ hch.1 (by have := HGR.out.1; have := hch.2.2; simp only at *; omega))
        have HMX := Lib.hid (show os.length + 1 ≤ maxLen ∧ (os.length + 1) * 72 ≤ 140737488355328 by have := HOL.out; unfold maxLen; omega)
        clear hch HCH
        go_wp2_with (first
          | (with_reducible refine wpList_load_g 46 _ (by with_reducible rfl) mb 0 (by with_unfolding_all rfl) (by with_unfolding_all rfl) _ _ HN4.out Tryz.underlying46 (by with_unfolding_all rfl) (by kernel_rfl) ?_)
          | (at_builtin; refine wpList_append_own_at _ rfl _ _ _ (by rfl) W1.heap.size 46 i2 _ 9 72 Tryz.underlying37 INFR.out.1 INFR.out.2.1 INFR.out.2.2.1 INFR.out.2.2.2 rfl (by omega) _ os.length (rtCells os) (by rfl) (HOW4.out.alloc _) ⟨x1.w.heap.size, 0, none⟩ 1 1 [.int .i64 id', .int .i64 own', .int .i64 date', .int .i64 pla', .int .i64 rate', .int .i64 fr', .int .i64 un', .int .i64 bk', .int .i64 bt'] (by rfl) (by rfl) (World.news_of_block (heap_alloc_new _ _)) (by simp [Value.oneCell']) HMX.out.1 HMX.out.2 (Nat.le_trans HB4.out.size (by simp)) ?_; intro u w5 hown5 hgrow5 hnil5 hat5))
        have HB5 := Lib.hid (show Below W1.heap.size W1 w5 from own_grown (bel_alloc HB4.out _) (HOW4.out.alloc _) hgrow5)
        have HOW5 := Lib.hid (show w5.ownsRow W1.heap.size 46 9 u (os ++ [(⟨id', own', date', pla', rate', fr', un', bk', bt'⟩ : Rt)]).length (rtCells (os ++ [(⟨id', own', date', pla', rate', fr', un', bk', bt'⟩ : Rt)])) from by
          have e : rtCells (os ++ [(⟨id', own', date', pla', rate', fr', un', bk', bt'⟩ : Rt)]) = rtCells os ++ [.int .i64 id', .int .i64 own', .int .i64 date', .int .i64 pla', .int .i64 rate', .int .i64 fr', .int .i64 un', .int .i64 bk', .int .i64 bt'] := by simp [rtCells, rtc]
          rw [e, List.length_append]
          exact hown5)
        clear hown5 hgrow5 hnil5 hat5 HB4 HOW4
        go_roundw
        case rel => exact ⟨q + 1, _, by omega, by go_num, Lib.hid HADD2.out, HB5.out, HOW5.out⟩
        case measure => simp [intOf]; omega
    have i4 : decide ((k : Int) < (ds.length : Int)) = true := decide_eq_true (by omega)
    have j1 : (0 : Int) ≤ (k : Int) := by omega
    have j2 : (k : Int) < (ds.length : Int) := by omega
    obtain ⟨rd, rb0, ro, rfl, hbs, hE, hrt⟩ := (HD.out wr HRO.out.bel).dl hlt
    have HFK := Lib.hid (HF.out k hlt)
    obtain ⟨X, hX⟩ : ∃ X, dl ds k = X := ⟨_, rfl⟩
    rw [hX] at hrt HFK
    clear hX hbs
    obtain ⟨kind, known, ⟨id, own, date, pla, rate, fr, un, bk, bt⟩, df, du⟩ := X
    have HRG := Lib.hid (show wr.rangeAt rb0 ro [.int .i64 kind, .int .i64 known, .int .i64 id, .int .i64 own, .int .i64 date, .int .i64 pla, .int .i64 rate, .int .i64 fr, .int .i64 un, .int .i64 bk, .int .i64 bt, .int .i64 df, .int .i64 du] from hrt)
    clear hrt
    go_upto_region 7 with (first
      | (with_reducible refine wpList_load_g 74 _ (by with_reducible rfl) rb0 ro (by with_unfolding_all rfl) (by with_unfolding_all rfl) _ _ HRG.out Tryz.underlying74 (by with_unfolding_all rfl) (by kernel_rfl) ?_)
      | (with_reducible refine wpList_store_new (z := [.int .i64 0, .int .i64 0, .int .i64 0, .int .i64 0, .int .i64 0, .int .i64 0, .int .i64 0, .int .i64 0, .int .i64 0, .int .i64 0, .int .i64 0, .int .i64 0, .int .i64 0]) (cs := [.int .i64 kind, .int .i64 known, .int .i64 id, .int .i64 own, .int .i64 date, .int .i64 pla, .int .i64 rate, .int .i64 fr, .int .i64 un, .int .i64 bk, .int .i64 bt, .int .i64 df, .int .i64 du]) 74 _ _ (by with_reducible rfl) (by with_unfolding_all rfl) wr.heap.size (by with_reducible rfl) _ (by with_unfolding_all rfl) (by with_unfolding_all rfl) (by with_unfolding_all rfl) (by kernel_rfl) (by with_unfolding_all rfl) ?_))
    refine wp_rebase _ (fun X hX x1 => ?_)
    have hbX : Below wr.heap.size wr X := by rw [hX]; exact bel_alloc (Below.refl _ _) _
    have HRX := Lib.hid (HRO.out.next hbX)
    have HN := Lib.hid (show X.rangeAt wr.heap.size 0 [.int .i64 kind, .int .i64 known, .int .i64 id, .int .i64 own, .int .i64 date, .int .i64 pla, .int .i64 rate, .int .i64 fr, .int .i64 un, .int .i64 bk, .int .i64 bt, .int .i64 df, .int .i64 du] by rw [hX]; exact range_new wr 74 [.int .i64 kind, .int .i64 known, .int .i64 id, .int .i64 own, .int .i64 date, .int .i64 pla, .int .i64 rate, .int .i64 fr, .int .i64 un, .int .i64 bk, .int .i64 bt, .int .i64 df, .int .i64 du])
    obtain ⟨nb, hnb⟩ : ∃ n, wr.heap.size = n := ⟨_, rfl⟩
    rw [hnb] at HN ⊢
    have HNB0 := Lib.hid (show nb < X.heap.size ∧ w.heap.size + 1 + 1 < nb from ⟨by rw [hX, World.size_alloc, hnb]; omega, by have := HRO.out.sz; omega⟩)
    clear hX hnb hbX HRO HRG hE
    have n0 := fun z : BelW X => (show z.w.cell? ⟨nb, 0, none⟩ = some (.int .i64 kind) from BelW.range HN.out z 0 _ rfl)
    have n1 := fun z : BelW X => (show z.w.cell? ⟨nb, 1, none⟩ = some (.int .i64 known) from BelW.range HN.out z 1 _ rfl)
    have n2 := fun z : BelW X => (show z.w.cell? ⟨nb, 2, none⟩ = some (.int .i64 id) from BelW.range HN.out z 2 _ rfl)
    by_cases hkn : kno < known
    case pos =>
      have t3 : decide (kno < known) = true := decide_eq_true hkn
      have HRK := Lib.hid (HRX.out.next x1.2).keep
      clear hkn HRX
      go_wp2_with fail
      go_roundw
      case rel => exact ⟨k + 1, f1, f2, gs, by omega, by go_num, HRK.out⟩
      case measure => simp [intOf]; omega
    have t3 : decide (kno < known) = false := decide_eq_false hkn
    have HR1 := Lib.hid (show Ros w [d0, .slice A on oc, d2, .slice B n cb, d4, d5, d6, d7, d8, d9, d10] k f1 f2 gs u11 x1.w from HRX.out.next x1.2)
    have HBR := Lib.hid (show x1.w.rangeAt nb 0 [.int .i64 kind, .int .i64 known, .int .i64 id, .int .i64 own, .int .i64 date, .int .i64 pla, .int .i64 rate, .int .i64 fr, .int .i64 un, .int .i64 bk, .int .i64 bt, .int .i64 df, .int .i64 du] from range_bel HN.out x1)
    have CA := Lib.hid (applies_any d0 d2 d4 d5 d6 d7 d8 d9 d10 A B on oc cb n kind known id own date pla rate fr un bk bt df du day x1.w (HM.out x1.w HR1.out.bel))
    clear hkn
    go_upto_region 8 with (first
      | (with_reducible refine wpList_load_g 31 _ (by with_reducible rfl) _ _ (by with_unfolding_all rfl) (by with_unfolding_all rfl) _ _ HR1.out.box Tryz.underlying31 (by with_unfolding_all rfl) (by kernel_rfl) ?_)
      | (with_reducible refine wpList_load_g 74 _ (by with_reducible rfl) nb 0 (by with_unfolding_all rfl) (by with_unfolding_all rfl) _ _ HBR.out Tryz.underlying74 (by with_unfolding_all rfl) (by kernel_rfl) ?_)
      | (go_at_call 20; (with_reducible refine CA.out.mono ?_); rintro e w2 ⟨⟨b, rfl, hb⟩, hbl⟩; cases b))
    · have HRK := Lib.hid (HR1.out.next hbl).keep
      clear hb CA HBR HR1 n0 n1 n2
      go_wp2_with fail
      go_roundw
      case rel => exact ⟨k + 1, f1, f2, gs, by omega, by go_num, HRK.out⟩
      case measure => simp [intOf]; omega
    · have HR2 := Lib.hid (show Ros w [d0, .slice A on oc, d2, .slice B n cb, d4, d5, d6, d7, d8, d9, d10] k f1 f2 gs u11 w2 from HR1.out.next hbl)
      have HN2 := Lib.hid (show w2.rangeAt nb 0 [.int .i64 kind, .int .i64 known, .int .i64 id, .int .i64 own, .int .i64 date, .int .i64 pla, .int .i64 rate, .int .i64 fr, .int .i64 un, .int .i64 bk, .int .i64 bt, .int .i64 df, .int .i64 du] from range_bel HBR.out ⟨w2, hbl⟩)
      have HRT := Lib.hid (fun h : kind = 0 => hb trivial h)
      have HNB := Lib.hid (show nb < w2.heap.size ∧ w.heap.size + 1 + 1 < nb from ⟨Nat.lt_of_lt_of_le HNB0.out.1 (Nat.le_trans x1.2.size hbl.size), HNB0.out.2⟩)
      clear hb CA HBR HR1 hbl n0 n1 n2 t3 HRX HN
      have m0 : w2.cell? ⟨nb, 0, none⟩ = some (.int .i64 kind) := HN2.out 0 _ rfl
      have m2 : w2.cell? ⟨nb, 2, none⟩ = some (.int .i64 id) := HN2.out 2 _ rfl
      have hk8 : k < 8 := by omega
      by_cases hk0 : kind = 0
      case neg =>
        have t4 : (kind == 0) = false := beq_eq_false_iff_ne.2 hk0
        obtain ⟨ds', hl', ho'⟩ := HR2.out.rows id
        have HOW := Lib.hid ho'
        have HMX := Lib.hid (show ds'.length + 1 ≤ maxLen ∧ (ds'.length + 1) * 104 ≤ 140737488355328 ∧ k < maxLen by unfold maxLen; omega)
        have HAP := Lib.hid (show some (w.heap.size + 1) ≠ (f1 (ik id)).ownBlock from fun e => by have := (own_ge HOW.out e.symm).1; omega)
        have HSZ := HR2.out.sz
        clear ho' HRT hk0
        go_wp2_with (first
          | (at_lookup; refine wpList_lookup_held rfl _ _ 76 rfl 3 32 law_int Tryz.underlying76 _ (zero_deals _) (w.heap.size + 1) k f1 (by rfl) HR2.out.m1 _ _ (by rfl) (key_int HFK.out) ?_)
          | (with_reducible refine wpList_load_g 74 _ (by with_reducible rfl) nb 0 (by with_unfolding_all rfl) (by with_unfolding_all rfl) _ _ HN2.out Tryz.underlying74 (by with_unfolding_all rfl) (by kernel_rfl) ?_)
          | (at_builtin; refine wpList_append_own_at _ rfl _ _ _ (by rfl) (w.heap.size + 1 + 1 + 1) 74 i1 _ 13 104 Tryz.underlying32 INFD.out.1 INFD.out.2.1 INFD.out.2.2.1 INFD.out.2.2.2 rfl (by omega) _ ds'.length (dlCells ds') (by rfl) (HOW.out.alloc _) ⟨w2.heap.size, 0, none⟩ 1 1 [.int .i64 kind, .int .i64 known, .int .i64 id, .int .i64 own, .int .i64 date, .int .i64 pla, .int .i64 rate, .int .i64 fr, .int .i64 un, .int .i64 bk, .int .i64 bt, .int .i64 df, .int .i64 du] (by rfl) (by rfl) (World.news_of_block (heap_alloc_new _ _)) (by simp [Value.oneCell']) HMX.out.1 HMX.out.2.1 (Nat.le_trans HSZ (by simp)) ?_; intro u w3 hown3 hgrow3 hnil3 hat3; have HG3 := Lib.hid hgrow3; have HO3 := Lib.hid hown3; have HA3 := Lib.hid hat3; clear hgrow3 hown3 hnil3 hat3)
          | (at_mapUpdate; refine wpList_mapUpdate_held rfl _ _ _ 76 rfl 3 32 law_int Tryz.underlying76 _ (w.heap.size + 1) k f1 (by rfl) ((HR2.out.m1.next (bel_alloc (Below.refl _ _) _)).grown HG3.out HAP.out) HMX.out.2.2 _ _ _ (by rfl) (by rfl) (key_int HFK.out) ?_; intro w4 hm4 hg4; have HM4 := Lib.hid hm4; have HG4 := Lib.hid hg4; clear hm4 hg4))
        have HRK := Lib.hid (HR2.out.about id hl' ⟨kind, known, ⟨id, own, date, pla, rate, fr, un, bk, bt⟩, df, du⟩ (bel_alloc (Below.refl _ _) _) HO3.out HG3.out HA3.out HM4.out HG4.out)
        clear HO3 HG3 HA3 HM4 HG4
        go_roundw
        case rel => exact ⟨k + 1, _, f2, gs, by omega, by go_num, HRK.out⟩
        case measure => simp [intOf]; omega
      subst hk0
      have HRATE := Lib.hid (HRT.out rfl)
      have HSZ := HR2.out.sz
      obtain ⟨b, hb2⟩ := HR2.out.isb id
      clear HRT
      cases b
      case true =>
        have HRK := Lib.hid (HR2.out.keep)
        go_wp2_with (first
          | (at_lookup; refine wpList_lookup_held rfl _ _ 77 rfl 3 4 law_int Tryz.underlying77 _ (zero_bool _) (w.heap.size + 1 + 1) k f2 (by rfl) HR2.out.m2 _ _ (by rfl) (key_int HFK.out) ?_; rw [hb2]))
        go_roundw
        case rel => exact ⟨k + 1, f1, f2, gs, by omega, by go_num, HRK.out⟩
        case measure => simp [intOf]; omega
      have HMX := Lib.hid (show gs.length + 1 ≤ maxLen ∧ (gs.length + 1) * 72 ≤ 140737488355328 ∧ k < maxLen by have := HR2.out.len; unfold maxLen; omega)
      have HGV := Lib.hid (fun (g : Nat) (e : u11.ownBlock = some g) => (own_ge HR2.out.own e).1)
      go_upto_region 13 with (first
        | (at_lookup; refine wpList_lookup_held rfl _ _ 77 rfl 3 4 law_int Tryz.underlying77 _ (zero_bool _) (w.heap.size + 1 + 1) k f2 (by rfl) HR2.out.m2 _ _ (by rfl) (key_int HFK.out) ?_; rw [hb2])
        | (at_mapUpdate; refine wpList_mapUpdate_held rfl _ _ _ 77 rfl 3 4 law_int Tryz.underlying77 _ (w.heap.size + 1 + 1) k f2 (by rfl) HR2.out.m2 HMX.out.2.2 _ _ _ (by rfl) (by rfl) (key_int HFK.out) ?_; intro w4 hm4 hg4; have HM4 := Lib.hid hm4; have HG4 := Lib.hid hg4; clear hm4 hg4))
      have HN4 := Lib.hid (show w4.rangeAt nb 0 [.int .i64 0, .int .i64 known, .int .i64 id, .int .i64 own, .int .i64 date, .int .i64 pla, .int .i64 rate, .int .i64 fr, .int .i64 un, .int .i64 bk, .int .i64 bt, .int .i64 df, .int .i64 du] from range_grown HN2.out HNB.out.1 HG4.out (fun e => by have := Option.some.inj e; have := HNB.out.2; omega))
      have HN4R := Lib.hid (show w4.rangeAt nb 2 [.int .i64 id, .int .i64 own, .int .i64 date, .int .i64 pla, .int .i64 rate, .int .i64 fr, .int .i64 un, .int .i64 bk, .int .i64 bt] from deal_right (D := ⟨0, known, ⟨id, own, date, pla, rate, fr, un, bk, bt⟩, df, du⟩) HN4.out)
      have HO4 := Lib.hid (World.ownsRow.kept HR2.out.own HG4.out (by
        rcases hx : u11.ownBlock with _ | g
        · exact .inl rfl
        · refine .inr fun e2 => ?_
          have := HGV.out g hx
          have := Option.some.inj e2
          omega))
      have HS4 := HG4.out.size
      clear m0 m2 HN4
      go_wp2_with (first
        | (with_reducible refine wpList_load_g 46 _ (by with_reducible rfl) nb 2 (by with_unfolding_all rfl) (by with_unfolding_all rfl) _ _ HN4R.out Tryz.underlying46 (by with_unfolding_all rfl) (by kernel_rfl) ?_)
        | (at_builtin; refine wpList_append_own_at _ rfl _ _ _ (by rfl) (w.heap.size + 1 + 1 + 1) 46 i2 _ 9 72 Tryz.underlying37 INFR.out.1 INFR.out.2.1 INFR.out.2.2.1 INFR.out.2.2.2 rfl (by omega) _ gs.length (rtCells gs) (by rfl) (HO4.out.alloc _) ⟨w4.heap.size, 0, none⟩ 1 1 [.int .i64 id, .int .i64 own, .int .i64 date, .int .i64 pla, .int .i64 rate, .int .i64 fr, .int .i64 un, .int .i64 bk, .int .i64 bt] (by rfl) (by rfl) (World.news_of_block (heap_alloc_new _ _)) (by simp [Value.oneCell']) HMX.out.1 HMX.out.2.1 (Nat.le_trans HSZ (Nat.le_trans HS4 (by simp))) ?_; intro u w5 hown5 hgrow5 hnil5 hat5; have HG5 := Lib.hid hgrow5; have HO5 := Lib.hid hown5; have HA5 := Lib.hid hat5; clear hgrow5 hown5 hnil5 hat5))
      have HRK := Lib.hid (HR2.out.grant ⟨id, own, date, pla, rate, fr, un, bk, bt⟩ ⟨HRATE.out, HFK.out⟩ hb2 HM4.out HG4.out (bel_alloc (Below.refl _ _) _) HO5.out HG5.out HA5.out)
      clear HO5 HG5 HA5 HM4 HG4
      go_roundw
      case rel => exact ⟨k + 1, f1, _, _, by omega, by go_num, HRK.out⟩
      case measure => simp [intOf]; omega
end Go.Proofs.YtngjakahanmepaaGreatDoor
namespace Go.Proofs.YtngjakahanmepaaGreatDoor
open Go.RowKit
set_option linter.unusedVariables false
set_option linter.unusedSimpArgs false
structure GrB (n : Nat) (w : World) (e : Ending) (w' : World) : Prop where
  ans : ∃ b, e = .returned (.bool b) ∧ (b = true → n ≤ 8)
  bel : Below w.heap.size w w'
def GrnR (V : World) (n : Nat) (s5 : Value) (wr : World) : Prop := ∃ k : Nat, k ≤ n ∧ s5 = .int .i64 (k : Int) ∧ ∃ y : BelW V, wr = y.w
theorem deal_rightO {W : World} {b o : Nat} {D : Dl} (h : W.rangeAt b o (dlc D)) : W.rangeAt b (o + 2) (rtc D.r) := fun j v hv => by
  have hj : j < 9 := (List.getElem?_eq_some_iff.1 hv).1
  have := h (2 + j) v (by
    rw [Nat.add_comm, show dlc D = [.int .i64 D.kind, .int .i64 D.known] ++ rtc D.r ++ [.int .i64 D.df, .int .i64 D.du] from rfl, List.append_assoc, List.getElem?_append_right (by simp), List.getElem?_append_left (by simpa [rtc] using hj)]
    simpa using hv)
  rw [Nat.add_assoc]; exact this
set_option maxHeartbeats 32000000 in
set_option maxRecDepth 100000 in
theorem granted_any (d0 d2 d4 d5 d6 d7 d8 d9 d10 : Value) (A B : Option Addr) (on oc cb n : Nat) (DA : Option Addr) (dc : Nat) (ds : List Dl) (hn : ds.length ≤ 9223372036854775807) (w : World) (hM : Mon w) (hd : Rd w DA (dlCells ds)) :
    Calls Tryz.prog 6 #[.agg #[d0, .slice A on oc, d2, .slice B n cb, d4, d5, d6, d7, d8, d9, d10], .slice DA ds.length dc] w (GrB ds.length w) := by
  have HM := Lib.hid hM
  go_enter Tryz.func6, Tryz.ntmps6
  go_upto_region 1 with fail
  refine wp_rebase _ (fun V hV x0 => ?_)
  have HB0 := Lib.hid (show Below w.heap.size w V by rw [hV]; exact bel_alloc (Below.refl _ _) _)
  have HBB := Lib.hid (show V.rangeAt w.heap.size 0 [d0, .slice A on oc, d2, .slice B n cb, d4, d5, d6, d7, d8, d9, d10] by rw [hV]; exact range_new _ _ [d0, .slice A on oc, d2, .slice B n cb, d4, d5, d6, d7, d8, d9, d10])
  have HD := Lib.hid (hd.below (Nat.le_refl _) HB0.out)
  have HMV := Lib.hid (fun (x : BelW V) => (show Mon x.w from HM.out.below (Nat.le_refl _) (below_next HB0.out x.2)))
  clear hV hM hd
  have HE := Lib.hid (fun y : BelW V => (show GrB ds.length w (.returned (.bool false)) y.w from ⟨⟨false, rfl, fun h => by cases h⟩, below_next HB0.out y.2⟩))
  go_wp2_with fail
  go_loopw [5] (fun s5 wr => GrnR V ds.length s5 wr) (fun i _ => ds.length - (intOf i).toNat)
  case atStart => exact ⟨0, by omega, rfl, x0, rfl⟩
  case round =>
    obtain ⟨k, hk, rfl, y, rfl⟩ := hrel
    by_cases hlt : k < ds.length
    case neg =>
      have i4 : decide ((k : Int) < (ds.length : Int)) = false := decide_eq_false (by omega)
      have HX := Lib.hid (show GrB ds.length w (.returned (.bool (decide ((ds.length : Int) ≤ 8)))) y.w from ⟨⟨_, rfl, fun h => by have := of_decide_eq_true h; omega⟩, below_next HB0.out y.2⟩)
      go_wp2_with fail
      go_ret
      exact HX.out
    have i4 : decide ((k : Int) < (ds.length : Int)) = true := decide_eq_true (by omega)
    have j1 : (0 : Int) ≤ (k : Int) := by omega
    have j2 : (k : Int) < (ds.length : Int) := by omega
    obtain ⟨rd, rb, ro, rfl, hbs, hE, hrt⟩ := HD.out.dl hlt
    obtain ⟨X, hX⟩ : ∃ X, dl ds k = X := ⟨_, rfl⟩
    rw [hX] at hrt
    clear hX hbs
    obtain ⟨kind, known, ⟨id, own, date, pla, rate, fr, un, bk, bt⟩, df, du⟩ := X
    have HRG := Lib.hid (show V.rangeAt rb (ro + 2) [.int .i64 id, .int .i64 own, .int .i64 date, .int .i64 pla, .int .i64 rate, .int .i64 fr, .int .i64 un, .int .i64 bk, .int .i64 bt] from deal_rightO hrt)
    have r0 := fun z : BelW V => (show z.w.cell? ⟨rb, ro, none⟩ = some (.int .i64 kind) from BelW.cells (hrt 0 _ rfl) z)
    have r2 := fun z : BelW V => (show z.w.cell? ⟨rb, ro + 2, none⟩ = some (.int .i64 id) from BelW.cells (hrt 2 _ rfl) z)
    clear hrt
    have CR0 := Lib.hid (fun z : BelW V => bel_of (x := z) (right_ex d0 d2 d4 d5 d6 d7 d8 d9 d10 A B on oc cb n id own date pla rate fr un bk bt z.w (HMV.out z)))
    go_upto_region 4 with fail
    cases h1 : rightF on n id own date pla rate fr un bk bt
    all_goals (
      rw [h1] at CR0
      have CR := Lib.hid CR0.out
      clear CR0 h1
      cases h0 : (kind == 0) <;> cases h2 : decide (id < 0) <;> cases h3 : decide (1000 < id))
    all_goals (
      refine wp_region_belx (by kernel_rfl) (by kernel_rfl) ?_
      repeat (first
        | (with_reducible refine wpQuiet_load_g 31 _ (by with_reducible rfl) _ _ (by with_unfolding_all rfl) (by with_unfolding_all rfl) _ _ (rangeX HBB.out) Tryz.underlying31 (by with_unfolding_all rfl) (by kernel_rfl) ?_; simp only [Act.put, List.setIfInBounds_toArray, List.set_cons_succ, List.set_cons_zero])
        | (with_reducible refine wpQuiet_load_g 46 _ (by with_reducible rfl) _ _ (by with_unfolding_all rfl) (by with_unfolding_all rfl) _ _ (rangeXo HRG.out) Tryz.underlying46 (by with_unfolding_all rfl) (by kernel_rfl) ?_; simp only [Act.put, List.setIfInBounds_toArray, List.set_cons_succ, List.set_cons_zero])
        | go_big_quiet_step ((go_at_call 19; with_reducible exact CR.out _)))
      refine wpQuiet_nil ?_
      intro y1
      go_wp2_with fail
      first
        | (go_ret; exact HE.out y1)
        | (go_roundw <;> first | exact ⟨k + 1, by omega, by go_num, y1, rfl⟩ | (simp [intOf]; omega)))
end Go.Proofs.YtngjakahanmepaaGreatDoor
namespace Go.Proofs.YtngjakahanmepaaGreatDoor
open Go.RowKit
set_option linter.unusedVariables false
set_option linter.unusedSimpArgs false
/-- the place q stops the right k -/
def Stop (D : List Dn) (rs : List Rt) (G Lf : List Int) (k q : Nat) : Prop := gi Lf q = 0 ∧ ∀ j, k < j → j < rs.length → 0 < gi G j → q ∉ reachF D (rt rs j).pla
structure TopS (n : Nat) (D : List Dn) (rs : List Rt) (G Lf : List Int) : Prop where
  gl : G.length = rs.length
  ll : Lf.length = n
  got : ∀ k, k < rs.length → 0 ≤ gi G k ∧ gi G k ≤ (rt rs k).rate
  sen : ∀ i j, i < j → j < rs.length → Sen (rt rs i) (rt rs j)
  dis : ∀ p, DisL n (reachF D p)
  stops : ∀ k, k < rs.length → gi G k ≠ (rt rs k).rate → ∃ q ∈ reachF D (rt rs k).pla, Stop D rs G Lf k q
theorem ras_at {D : List Dn} {rs : List Rt} {k : Nat} (h : k < rs.length) : (ras D rs)[k]'(by rw [ras_length]; exact h) = ra D (rt rs k) := by
  simp [ras, rt_at h]
theorem TopS.of {n on : Nat} {D : List Dn} {rs : List Rt} {L0 : List Int} (hD : D.length = n) (hL : L0.length = n) (hN : NonF L0) (hr : ∀ k, k < rs.length → 0 ≤ (rt rs k).rate ∧ (rt rs k).rate ≤ 1125899906842624)
    (hs : ∀ i j, i < j → j < rs.length → Sen (rt rs i) (rt rs j)) (hp : ∀ k, k < rs.length → In2 n on (rt rs k)) : TopS n D rs (dayG L0 (ras D rs)) (dayL L0 (ras D rs)) := by
  have hok : ∀ r ∈ ras D rs, RaOk L0.length r := fun r hm => by
    obtain ⟨k, hk, e⟩ := List.mem_iff_getElem.1 hm
    rw [ras_length] at hk
    rw [ras_at hk] at e
    subst e
    exact ⟨(hr k hk).1, fun q hq => by rw [hL, ← hD]; exact (reachF_dis D _).2 q hq⟩
  have hd := fun k (hk : k < rs.length) => day_stops (ras D rs) L0 k (by rw [ras_length]; exact hk) hN.nonN hok
  refine ⟨by rw [dayG_length, ras_length], by rw [dayL_length, hL], fun k hk => ?_, hs, fun p => by rw [← hD]; exact reachF_dis D p, fun k hk hne => ?_⟩
  · have := (hd k hk).1
    rw [ras_at hk] at this
    exact this
  · have h2 := (hd k hk).2
    rw [ras_at hk] at h2
    have hpk := hp k hk
    obtain ⟨q, hq, hz, hj⟩ := h2 (fun e => by
      have hm : (rt rs k).pla.toNat ∈ reachF D ((rt rs k).pla.toNat : Int) := reachF_start (by rw [hD]; have := hpk.2.1; have := hpk.1; omega)
      rw [Int.toNat_of_nonneg hpk.1] at hm
      have e2 : reachF D (rt rs k).pla = [] := e
      rw [e2] at hm
      cases hm) hne
    refine ⟨q, hq, hz, fun j hkj hjl hg => ?_⟩
    have := hj j (by rw [ras_length]; exact hjl) hkj hg
    rw [ras_at hjl] at this
    exact this
end Go.Proofs.YtngjakahanmepaaGreatDoor
