/- Appending rounds: a row that the call itself makes, behind other calls. -/
import Derived.Test.YtonemgmmhjankaaCurveP
import Derived.Test.YtonemgmmhjankaaRowP
import Derived.Deep.AppendLies
import Derived.OwnWalk
namespace Go.Proofs.Ytonemgmmhjankaa
open Go.RowKit
set_option linter.unusedVariables false
set_option linter.unusedSimpArgs false

theorem own_bel {V : World} {base : Nat} {e : TypeId} {size : Nat} {v : Value} {n : Nat} {xs : List Value} (h : V.ownsRow base e size v n xs) (y : BelW V) : y.w.ownsRow base e size v n xs :=
  h.kept (row := none) ⟨y.2.os, y.2.tape, y.2.output, y.2.size, fun k hk _ => y.2.block k hk⟩ (by cases v.ownBlock <;> simp)
theorem own_grown {V w w' : World} {e : TypeId} {size : Nat} {v : Value} {n : Nat} {xs : List Value} (h : Below V.heap.size V w) (ho : w.ownsRow V.heap.size e size v n xs) (hg : w.grownBy w' v.ownBlock) : Below V.heap.size V w' :=
  h.grown hg h.size fun k hk => (ho.lt k hk).1
theorem own_rd {w : World} {base : Nat} {e : TypeId} {size : Nat} {v : Value} {n : Nat} {xs : List Value} (h : w.ownsRow base e size v n xs) (hn : 0 < n) :
    ∃ g cap, v = .slice (some ⟨g, 0, none⟩) n cap ∧ Rd w (some ⟨g, 0, none⟩) xs := by
  obtain ⟨g, cap, rfl, hb, hl⟩ := h.form hn
  exact ⟨g, cap, rfl, fun _ => ⟨⟨g, 0, none⟩, rfl, hl, fun j u hu => h.cells (g := g) rfl j u hu⟩⟩
theorem take_step (l : List (Int × Int)) {j : Nat} (hj : j < l.length) : ptCells (l.take (j + 1)) = ptCells (l.take j) ++ [.int .i64 (px l j), .int .i64 (py l j)] := by
  rw [List.take_succ_eq_append_getElem hj]
  unfold ptCells
  rw [List.flatMap_append]
  simp [px_at hj, py_at hj]
theorem info_pt : (Try.prog.info? 37).map (fun i => (i.zero, i.size, i.bytes)) = some (some (.agg #[.int .i64 0, .int .i64 0]), 2, 16) := by kernel_rfl

theorem at_c {V : World} (A : Option Addr) (c : Nat) (a : List (Int × Int)) (n : Nat) (ha : a.length = n) (hn : n ≤ 9223372036854775807) (x v : Int) (hx : -9223372036854775808 ≤ x ∧ x ≤ 9223372036854775807) (hv : atF a x = v) (hr : Rd V A (ptCells a)) (z : BelW V) :
    Calls Try.prog 13 #[.slice A n c, .int .i64 x] z.w fun e w' => e = .returned (.int .i64 v) ∧ ∃ y : BelW V, w' = y.w := by
  subst ha hv
  exact bel_of (at_any A c a hn x hx.1 hx.2 z.w (hr.bel z))
theorem under_c {V : World} (A B : Option Addr) (ca cb : Nat) (a b : List (Int × Int)) (na nb : Nat) (ha : a.length = na) (hb : b.length = nb) (hna : na ≤ 9223372036854775807) (hnb : nb ≤ 9223372036854775807) (r : Bool) (hr : underB a b = r) (hra : Rd V A (ptCells a)) (hrb : Rd V B (ptCells b)) (z : BelW V) :
    Calls Try.prog 17 #[.slice A na ca, .slice B nb cb] z.w fun e w' => e = .returned (.bool r) ∧ ∃ y : BelW V, w' = y.w := by
  subst ha hb hr
  exact bel_of (under_is A B ca cb a b hna hnb z.w (hra.bel z) (hrb.bel z))
theorem under_eq {a b c d : List (Int × Int)} (h : UnderP a b ↔ UnderP c d) : underB a b = underB c d := by
  rw [Bool.eq_iff_iff, underB_iff, underB_iff]; exact h

/-- the count of points behind k rounds -/
def cnt (m k : Nat) : Nat := if k ≤ m then k else k + 1
theorem cnt_le {m k : Nat} (h : k ≤ m) : cnt m k = k := if_pos h
theorem cnt_gt {m k : Nat} (h : ¬ k ≤ m) : cnt m k = k + 1 := if_neg h
theorem more_step {l : List (Int × Int)} {m : Nat} (h : m + 1 < l.length) {k : Nat} (hk : k < l.length) (hkm : k ≠ m) :
    cnt m (k + 1) = cnt m k + 1 ∧ ptCells ((more l m).take (cnt m (k + 1))) = ptCells ((more l m).take (cnt m k)) ++ [.int .i64 (px l k), .int .i64 (py l k)] := by
  have hL := more_length h
  by_cases h1 : k + 1 ≤ m
  · rw [cnt_le h1, cnt_le (by omega), take_step _ (by omega)]
    unfold px py
    rw [more_lo h (by omega)]
    exact ⟨rfl, rfl⟩
  · rw [cnt_gt h1, cnt_gt (by omega), take_step _ (by omega)]
    unfold px py
    rw [more_hi h (by omega)]
    exact ⟨rfl, rfl⟩
theorem more_mid {l : List (Int × Int)} {m : Nat} (h : m + 1 < l.length) :
    cnt m (m + 1) = cnt m m + 2 ∧ ptCells ((more l m).take (cnt m (m + 1))) = (ptCells ((more l m).take (cnt m m)) ++ [.int .i64 (px l m), .int .i64 (py l m)]) ++ [.int .i64 (px l m + 1), .int .i64 (py l m)] := by
  have hL := more_length h
  rw [cnt_gt (by omega), cnt_le (Nat.le_refl _), take_step _ (by omega), take_step _ (by omega)]
  unfold px py
  rw [more_lo h (Nat.le_refl _), more_at h]
  exact ⟨rfl, rfl⟩
theorem more_all {l : List (Int × Int)} {m : Nat} (h : m + 1 < l.length) : cnt m l.length = l.length + 1 ∧ (more l m).take (cnt m l.length) = more l m := by
  have hL := more_length h
  rw [cnt_gt (by omega)]
  exact ⟨rfl, List.take_of_length_le (by omega)⟩

end Go.Proofs.Ytonemgmmhjankaa
