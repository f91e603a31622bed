/- Part 42 of the proof of TopRights: exact.Share. The proportional division: what it keeps. -/
import Derived.Test.YtngjakahanmepaaGreatDoorM41
import Derived.OwnWalk
import Derived.Deep.LoopGhost
namespace Go.Proofs.YtngjakahanmepaaGreatDoor.Pw
open Go.RowKit
set_option linter.unusedVariables false
set_option linter.unusedSimpArgs false
def ints (xs : List Int) : List Value := xs.map (Value.int .i64)
theorem ints_length (xs : List Int) : (ints xs).length = xs.length := List.length_map _
theorem ints_at {xs : List Int} {i : Nat} (h : i < xs.length) : (ints xs)[i]? = some (.int .i64 (gi xs i)) := by unfold ints; rw [List.getElem?_map, gi_at h]; rfl
theorem ints_set (xs : List Int) (i : Nat) (v : Int) : (ints xs).set i (.int .i64 v) = ints (xs.set i v) := by unfold ints; rw [List.map_set]
/-- the first k filled -/
def fl (n k : Nat) (f : Nat → Int) : List Int := (List.range n).map fun i => if i < k then f i else 0
theorem fl_length (n k : Nat) (f : Nat → Int) : (fl n k f).length = n := by simp [fl]
theorem fl_at {n k i : Nat} {f : Nat → Int} (h : i < n) : gi (fl n k f) i = if i < k then f i else 0 := gi_map h
theorem fl_set {n k : Nat} {f : Nat → Int} (h : k < n) : (fl n k f).set k (f k) = fl n (k + 1) f := by
  refine gi_ext (by simp [fl_length]) fun i hi => ?_
  rw [List.length_set, fl_length] at hi
  by_cases e : k = i
  · subst e; rw [gi_set_same (by rw [fl_length]; exact h), fl_at h, if_pos (by omega)]
  · rw [gi_set_other e, fl_at hi, fl_at hi]
    by_cases h1 : i < k
    · rw [if_pos h1, if_pos (by omega)]
    · rw [if_neg h1, if_neg (by omega)]
theorem fl_zero (n : Nat) (f : Nat → Int) : ints (fl n 0 f) = List.replicate n (.int .i64 0) := by
  refine List.ext_getElem (by simp [ints, fl]) fun i h1 h2 => by simp [ints, fl]
theorem share_zero {l : List Int} {f : Nat → Int} (h : l.sum = 0) : ShareP 0 l (fl l.length 0 f) := by
  have hz : ∀ i, i < l.length → gi (fl l.length 0 f) i = 0 := fun i hi => by rw [fl_at hi, if_neg (by omega)]
  have hq : ∀ i, qq 0 l i = 0 := fun i => by unfold qq; rw [Int.zero_mul, Int.zero_ediv]
  refine ⟨fl_length _ _ _, ?_, fun i hi => .inl (by rw [hz i hi, hq]), fun i j hi _ h1 => ?_⟩
  · rw [sum_su, fl_length]
    exact su_zero hz
  · rw [hz i hi, hq] at h1; omega
/-- a row of whole numbers that the call has made -/
def IR (w : World) (B g n : Nat) (xs : List Int) : Prop := w.ownsRow B 3 1 (.slice (some ⟨g, 0, none⟩) n n) n (ints xs)
theorem IR.lt {w : World} {B g n : Nat} {xs : List Int} (h : IR w B g n xs) : B ≤ g ∧ g < w.heap.size := World.ownsRow.lt h g rfl
theorem IR.len {w : World} {B g n : Nat} {xs : List Int} (h : IR w B g n xs) : xs.length = n := by have := h.1; rw [ints_length] at this; omega
theorem IR.cell {w : World} {B g n : Nat} {xs : List Int} (h : IR w B g n xs) {i : Nat} (hi : i < n) : w.cell? ⟨g, i, none⟩ = some (.int .i64 (gi xs i)) := by
  rw [World.ownsRow.cellAt h i (by omega), ints_at (by rw [h.len]; exact hi)]
theorem IR.frozen {w : World} {B g n : Nat} {xs : List Int} (h : IR w B g n xs) (i : Nat) : w.frozen? ⟨g, i, none⟩ = false := World.ownsRow.frozenAt h i
theorem IR.drew {w : World} {B g n : Nat} {xs : List Int} (h : IR w B g n xs) : IR w.drew B g n xs := h
theorem IR.kept {w w' : World} {B g n : Nat} {xs : List Int} {r : Option Nat} (h : IR w B g n xs) (hg : w.grownBy w' r) (hne : some g ≠ r) : IR w' B g n xs := World.ownsRow.kept h hg (.inr hne)
theorem IR.set {w : World} {B g n : Nat} {xs : List Int} (h : IR w B g n xs) (i : Nat) (v : Int) : IR (w.setCell ⟨g, i, none⟩ (.int .i64 v)) B g n (xs.set i v) := by
  have := (World.ownsRow.stored h i (.int .i64 v)).1
  rw [ints_set] at this
  exact this
theorem grown_set (w : World) (g i : Nat) (v : Value) : w.grownBy (w.setCell ⟨g, i, none⟩ v) (some g) :=
  ⟨rfl, rfl, rfl, by simp [World.setCell], fun k _ hk => heap_setCell_other w ⟨g, i, none⟩ k v (fun e => hk (by simp [e]))⟩
theorem grown_bel {w : World} (y : BelW w) : w.grownBy y.w none := ⟨y.2.os, y.2.tape, y.2.output, y.2.size, fun k hk _ => y.2.block k hk⟩
theorem grown_alloc (w : World) (o : Obj) : w.grownBy (w.alloc o) none := World.grownBy_alloc w o none
theorem below_grown {V w w' : World} {r : Option Nat} (h : Below V.heap.size V w) (hg : w.grownBy w' r) (hr : ∀ k, r = some k → V.heap.size ≤ k) : Below V.heap.size V w' := h.grown hg h.size hr
/-- the memory of a division under way -/
structure ShM (V : World) (n P R bR O bO : Nat) (ps rs os : List Int) (w : World) : Prop where
  bel : Below V.heap.size V w
  p : IR w V.heap.size P n ps
  r : IR w V.heap.size R n rs
  o : IR w V.heap.size O n os
  cR : w.cell? ⟨bR, 0, none⟩ = some (.slice (some ⟨R, 0, none⟩) n n)
  cO : w.cell? ⟨bO, 0, none⟩ = some (.slice (some ⟨O, 0, none⟩) n n)
def Apart (P R bR O bO : Nat) : Prop := P < R ∧ R < bR ∧ bR < O ∧ O < bO
theorem ShM.bel' {V : World} {n P R bR O bO : Nat} {ps rs os : List Int} {w : World} (h : ShM V n P R bR O bO ps rs os w) (y : BelW w) : ShM V n P R bR O bO ps rs os y.w :=
  ⟨below_grown h.bel (grown_bel y) (fun k hk => by cases hk), h.p.kept (grown_bel y) (by simp), h.r.kept (grown_bel y) (by simp), h.o.kept (grown_bel y) (by simp), BelW.cells h.cR y, BelW.cells h.cO y⟩
theorem ShM.setP {V : World} {n P R bR O bO : Nat} {ps rs os : List Int} {w : World} (ha : Apart P R bR O bO) (h : ShM V n P R bR O bO ps rs os w) (i : Nat) (v : Int) : ShM V n P R bR O bO (ps.set i v) rs os (w.setCell ⟨P, i, none⟩ (.int .i64 v)) := by
  obtain ⟨a1, a2, a3, a4⟩ := ha
  have hg := grown_set w P i (.int .i64 v)
  exact ⟨below_grown h.bel hg (fun k hk => by cases hk; exact h.p.lt.1), h.p.set i v, h.r.kept hg (by simp; omega), h.o.kept hg (by simp; omega), hg.cell h.cR (by simp; omega), hg.cell h.cO (by simp; omega)⟩
theorem ShM.setR {V : World} {n P R bR O bO : Nat} {ps rs os : List Int} {w : World} (ha : Apart P R bR O bO) (h : ShM V n P R bR O bO ps rs os w) (i : Nat) (v : Int) : ShM V n P R bR O bO ps (rs.set i v) os (w.setCell ⟨R, i, none⟩ (.int .i64 v)) := by
  obtain ⟨a1, a2, a3, a4⟩ := ha
  have hg := grown_set w R i (.int .i64 v)
  exact ⟨below_grown h.bel hg (fun k hk => by cases hk; exact h.r.lt.1), h.p.kept hg (by simp; omega), h.r.set i v, h.o.kept hg (by simp; omega), hg.cell h.cR (by simp; omega), hg.cell h.cO (by simp; omega)⟩
theorem ShM.setO {V : World} {n P R bR O bO : Nat} {ps rs os : List Int} {w : World} (ha : Apart P R bR O bO) (h : ShM V n P R bR O bO ps rs os w) (i : Nat) (v : Int) : ShM V n P R bR O bO ps rs (os.set i v) (w.setCell ⟨O, i, none⟩ (.int .i64 v)) := by
  obtain ⟨a1, a2, a3, a4⟩ := ha
  have hg := grown_set w O i (.int .i64 v)
  exact ⟨below_grown h.bel hg (fun k hk => by cases hk; exact h.o.lt.1), h.p.kept hg (by simp; omega), h.r.kept hg (by simp; omega), h.o.set i v, hg.cell h.cR (by simp; omega), hg.cell h.cO (by simp; omega)⟩
def SharePost (t : Int) (l : List Int) (w : World) (e : Ending) (w' : World) : Prop :=
  (∃ g x, e = .returned (.tuple #[.slice (some ⟨g, 0, none⟩) l.length l.length, .bool true]) ∧ Wt l ∧ 0 ≤ t ∧ t ≤ l.sum ∧ ShareP t l x ∧ IR w' w.heap.size g l.length x ∧ Below w.heap.size w w') ∨
  (e = .returned (.tuple #[.slice none 0 0, .bool false]) ∧ ¬ (Wt l ∧ 0 ≤ t ∧ t ≤ l.sum) ∧ Below w.heap.size w w')
theorem Wt.su_le {l : List Int} (h : Wt l) {k : Nat} (hk : k ≤ l.length) : su (gi l) k ≤ 1125899906842624 := by
  have : su (gi l) k ≤ su (gi l) l.length := by
    obtain ⟨j, e⟩ : ∃ j, l.length = k + j := ⟨l.length - k, by omega⟩
    have hp := h.pos
    clear hk
    have : ∀ j, k + j ≤ l.length → su (gi l) k ≤ su (gi l) (k + j) := fun j => by
      induction j with
      | zero => intro _; exact Int.le_refl _
      | succ j ih =>
        intro hj
        have := ih (by omega)
        have := hp (k + j) (by omega)
        show su (gi l) k ≤ su (gi l) (k + j) + gi l (k + j)
        omega
    rw [e]
    exact this j (by omega)
  rw [← sum_su] at this
  have := h.sum
  omega
/-- what the first loop knows -/
structure WtK (l : List Int) (k : Nat) : Prop where
  pos : ∀ i, i < k → 0 ≤ gi l i
  sum : su (gi l) k ≤ 1125899906842624
theorem WtK.nonneg {l : List Int} {k : Nat} (h : WtK l k) : 0 ≤ su (gi l) k := by
  have := su_le (f := fun _ => 0) (g := gi l) (n := k) h.pos
  rw [su_zero (fun _ _ => rfl)] at this
  exact this
theorem WtK.step {l : List Int} {k : Nat} (h : WtK l k) (h1 : 0 ≤ gi l k) (h2 : gi l k ≤ 1125899906842624 - su (gi l) k) : WtK l (k + 1) :=
  ⟨fun i hi => by by_cases e : i = k; · subst e; exact h1
                  · exact h.pos i (by omega), by show su (gi l) k + gi l k ≤ _; omega⟩
theorem WtK.all {l : List Int} (h : WtK l l.length) (hl : l.length ≤ 64) : Wt l := ⟨hl, h.pos, by rw [sum_su]; exact h.sum⟩
theorem not_wt_neg {l : List Int} {k : Nat} (hk : k < l.length) (h : gi l k < 0) : ¬ Wt l := fun hw => by have := hw.pos k hk; omega
theorem not_wt_sum {l : List Int} {k : Nat} (hk : k < l.length) (h : 1125899906842624 - su (gi l) k < gi l k) : ¬ Wt l := fun hw => by
  have : su (gi l) k + gi l k ≤ 1125899906842624 := hw.su_le (k := k + 1) (by omega)
  omega
theorem share_no {t : Int} {l : List Int} {w w' : World} (h : ¬ (Wt l ∧ 0 ≤ t ∧ t ≤ l.sum)) (hb : Below w.heap.size w w') : SharePost t l w (.returned (.tuple #[.slice none 0 0, .bool false])) w' := .inr ⟨rfl, h, hb⟩
theorem qq_le {t : Int} {l : List Int} (h : Wt l) (h0 : 0 ≤ t) (h1 : t ≤ l.sum) {i : Nat} (hi : i < l.length) : 0 ≤ qq t l i ∧ qq t l i ≤ gi l i := by
  have hp := h.pos i hi
  have hw := wOf_pos l
  have htw : t ≤ wOf l := by unfold wOf; omega
  refine ⟨Int.ediv_nonneg (Int.mul_nonneg h0 hp) (by omega), ?_⟩
  unfold qq
  refine Int.ediv_le_of_le_mul hw ?_
  rw [Int.mul_comm (gi l i)]
  exact Int.mul_le_mul_of_nonneg_right htw hp
theorem suq_le {t : Int} {l : List Int} (h : Wt l) (h0 : 0 ≤ t) (h1 : t ≤ l.sum) {k : Nat} (hk : k ≤ l.length) : 0 ≤ su (qq t l) k ∧ su (qq t l) k ≤ 1125899906842624 := by
  have a := su_le (f := fun _ => 0) (g := qq t l) (n := k) (fun i hi => (qq_le h h0 h1 (by omega)).1)
  rw [su_zero (fun _ _ => rfl)] at a
  have b := su_le (f := qq t l) (g := gi l) (n := k) (fun i hi => (qq_le h h0 h1 (by omega)).2)
  have c := h.su_le hk
  omega
end Go.Proofs.YtngjakahanmepaaGreatDoor.Pw
namespace Go.Proofs.YtngjakahanmepaaGreatDoor.Pw
set_option linter.unusedVariables false
set_option linter.unusedSimpArgs false
theorem wOf_eq {l : List Int} (h : l.sum ≥ 1) : wOf l = l.sum := by unfold wOf; omega
theorem ShareP.sum_su' {t : Int} {l x : List Int} (h : ShareP t l x) : su (gi x) l.length = t := by rw [← h.len, ← sum_su]; exact h.sum
theorem ShareP.no_up {t : Int} {l x : List Int} (h : ShareP t l x) (hw : Wt l) (h0 : 0 ≤ t) (h1 : t ≤ l.sum) {i : Nat} (hi : i < l.length) (hu : gi x i = qq t l i + 1) : 0 < rr t l i := by
  have hr := rr_nonneg t l i
  rcases Int.lt_or_le 0 (rr t l i) with h' | h'
  · exact h'
  · exfalso
    have hz : rr t l i = 0 := by omega
    by_cases hS : l.sum ≥ 1
    · have e := su_rr (t := t) hS
      have hW := wOf_pos l
      -- the sum of the remainders is below the number of those that were rounded up, times w
      have e2 : su (fun j => wOf l * (gi x j - qq t l j)) l.length = wOf l * (t - su (qq t l) l.length) := by
        rw [su_mul]
        have : su (fun j => gi x j - qq t l j) l.length = t - su (qq t l) l.length := by
          have a := su_add (fun j => gi x j - qq t l j) (qq t l) l.length
          have b : su (fun j => (gi x j - qq t l j) + qq t l j) l.length = su (gi x) l.length := su_congr fun j _ => by omega
          rw [b, h.sum_su'] at a
          omega
        rw [this]
      have lt := su_lt (f := rr t l) (g := fun j => wOf l * (gi x j - qq t l j)) (n := l.length) (fun j hj => by
        rcases h.two j hj with hd | hu'
        · have hb := h.ord i j hi hj hu hd
          unfold bef at hb
          have := rr_nonneg t l j
          rw [hd, Int.sub_self, Int.mul_zero]
          omega
        · have := rr_lt t l j
          rw [hu', show qq t l j + 1 - qq t l j = 1 by omega, Int.mul_one]
          omega) hi (by rw [hz, hu, show qq t l i + 1 - qq t l i = 1 by omega, Int.mul_one]; exact hW)
      rw [e2, e] at lt
      omega
    · have hs0 : l.sum = 0 := by have := hw.nonneg; omega
      have ht : t = 0 := by omega
      subst ht
      have hq : ∀ j, qq 0 l j = 0 := fun j => by unfold qq; rw [Int.zero_mul, Int.zero_ediv]
      have lt := su_lt (f := fun _ => 0) (g := gi x) (n := l.length) (fun j hj => by have := h.two j hj; rw [hq] at this; omega) hi (by rw [hu, hq]; omega)
      rw [su_zero (fun _ _ => rfl), h.sum_su'] at lt
      omega
theorem ShareP.le {t : Int} {l x : List Int} (h : ShareP t l x) (hw : Wt l) (h0 : 0 ≤ t) (h1 : t ≤ l.sum) {i : Nat} (hi : i < l.length) : 0 ≤ gi x i ∧ gi x i ≤ gi l i := by
  have hq := qq_le hw h0 h1 hi
  rcases h.two i hi with hd | hu
  · omega
  · have hp := h.no_up hw h0 h1 hi hu
    refine ⟨by omega, ?_⟩
    have e := qr t l i
    have hW := wOf_pos l
    have htw : t ≤ wOf l := by unfold wOf; omega
    have m := Int.mul_le_mul_of_nonneg_right htw (hw.pos i hi)
    have hlt : wOf l * qq t l i < wOf l * gi l i := by omega
    have := Int.lt_of_mul_lt_mul_left hlt (Int.le_of_lt hW)
    omega
theorem ShareP.mono {t : Int} {l x : List Int} (h : ShareP t l x) (hw : Wt l) (h0 : 0 ≤ t) (h1 : t ≤ l.sum) {i k : Nat} (hi : i < l.length) (hk : k < l.length) (hlt : gi l k < gi l i) : gi x k ≤ gi x i := by
  have hW := wOf_pos l
  have m : t * gi l k ≤ t * gi l i := Int.mul_le_mul_of_nonneg_left (by omega) h0
  have hq : qq t l k ≤ qq t l i := Int.ediv_le_ediv hW m
  rcases h.two i hi with a | a <;> rcases h.two k hk with b | b
  · omega
  · -- k up, i down: then k comes before i
    have hb := h.ord k i hk hi b a
    rcases Int.lt_or_le (qq t l k) (qq t l i) with hc | hc
    · omega
    · exfalso
      have e : qq t l k = qq t l i := by omega
      have e1 := qr t l i
      have e2 := qr t l k
      rw [e] at e2
      have hr : rr t l k ≤ rr t l i := by omega
      have hp := h.no_up hw h0 h1 hk b
      have ht : 0 < t := by
        rcases Int.lt_or_le 0 t with h' | h'
        · exact h'
        · have : t = 0 := by omega
          subst this
          unfold rr at hp
          rw [Int.zero_mul, Int.zero_emod] at hp
          omega
      have ms : t * gi l k < t * gi l i := Int.mul_lt_mul_of_pos_left hlt ht
      unfold bef at hb
      omega
  · omega
  · omega
theorem ShareP.none {l x : List Int} (h : ShareP 0 l x) {i : Nat} (hi : i < l.length) (hw : Wt l) : gi x i = 0 := by
  have hs := hw.nonneg
  rcases h.two i hi with a | a
  · rw [a]; unfold qq; rw [Int.zero_mul, Int.zero_ediv]
  · have := h.no_up hw (Int.le_refl _) hs hi a
    unfold rr at this
    rw [Int.zero_mul, Int.zero_emod] at this
    omega
theorem ShareP.rest {t : Int} {l x u : List Int} (h : ShareP t l x) (g : ShareP (l.sum - t) l u) (hw : Wt l) (h0 : 0 ≤ t) (h1 : t ≤ l.sum) {i : Nat} (hi : i < l.length) : -1 ≤ gi l i - gi x i - gi u i ∧ gi l i - gi x i - gi u i ≤ 1 := by
  by_cases hS : l.sum ≥ 1
  · have e : wOf l = l.sum := wOf_eq hS
    have hW := wOf_pos l
    have e1 := qr t l i
    have e2 := qr (l.sum - t) l i
    have r1 := rr_nonneg t l i
    have r2 := rr_nonneg (l.sum - t) l i
    have r3 := rr_lt t l i
    have r4 := rr_lt (l.sum - t) l i
    rw [Int.sub_mul] at e2
    have key : wOf l * (gi l i - qq t l i - qq (l.sum - t) l i) = rr t l i + rr (l.sum - t) l i := by
      rw [Int.mul_sub, Int.mul_sub]
      rw [e] at e1 e2 ⊢
      omega
    generalize hv : gi l i - qq t l i - qq (l.sum - t) l i = v at key
    have v0 : 0 ≤ v := by
      rcases Int.lt_or_le v 0 with hn | hn
      · have := Int.mul_neg_of_pos_of_neg hW hn; omega
      · exact hn
    have v1 : v ≤ 1 := by
      rcases Int.lt_or_le 1 v with hn | hn
      · have := Int.mul_le_mul_of_nonneg_left (show 2 ≤ v by omega) (Int.le_of_lt hW); omega
      · exact hn
    rcases h.two i hi with a | a <;> rcases g.two i hi with b | b
    · omega
    · omega
    · omega
    · have p1 := h.no_up hw h0 h1 hi a
      have p2 := g.no_up hw (by omega) (by omega) hi b
      have : v ≠ 0 := fun hv0 => by rw [hv0, Int.mul_zero] at key; omega
      omega
  · have hs0 : l.sum = 0 := by have := hw.nonneg; omega
    have a := h.le hw h0 h1 hi
    have b := g.le hw (by omega) (by omega) hi
    have c := hw.le hi
    omega
end Go.Proofs.YtngjakahanmepaaGreatDoor.Pw
