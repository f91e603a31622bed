/- The head of the laws of exact: the documentation's examples. -/
import Derived.Test.YtemdnfodpijncaaShareW
import Derived.Test.YtemdnfodpijncaaSame
import Derived.Deep.AppendLies
namespace Go.Proofs.Ytemdnfodpijncaa
open Go.RowKit
set_option linter.unusedVariables false
set_option linter.unusedSimpArgs false

theorem ints_rd_new (w : World) (l : List Int) (t : TypeId) : Rd (w.alloc (.cells (ints l).toArray t)) (some ⟨w.heap.size, 0, none⟩) (ints l) := fun _ => by
  refine ⟨⟨w.heap.size, 0, none⟩, rfl, by rw [World.size_alloc]; exact Nat.lt_succ_self _, fun j u hu => ?_⟩
  exact World.news_of_block (cs := (ints l).toArray) (t := t) (fr := (0, 0)) (heap_alloc_new w _) j u (by simpa using hu)
theorem IR.rd {w : World} {B g n : Nat} {xs : List Int} (h : IR w B g n xs) : Rd w (some ⟨g, 0, none⟩) (ints xs) := fun _ =>
  ⟨⟨g, 0, none⟩, rfl, h.lt.2, fun j u hu => World.ownsRow.cells h (g := g) rfl j u hu⟩
def BelW.al {V : World} (y : BelW V) (o : Obj) : BelW V := ⟨y.w.alloc o, bel_alloc y.2 o⟩
def ShC1 (V : World) (n : Nat) (x : List Int) (e : Ending) (w' : World) : Prop := ∃ g, e = .returned (.tuple #[.slice (some ⟨g, 0, none⟩) n n, .bool true]) ∧ ∃ z : BelW V, w' = z.w ∧ Rd z.w (some ⟨g, 0, none⟩) (ints x)
theorem share_yes {V : World} (t : Int) (l x : List Int) (n : Nat) (hl : l.length = n) (hn : n ≤ 9223372036854775807) (hw : Wt l) (h0 : 0 ≤ t) (h1 : t ≤ l.sum) (hx : ShareP t l x) (A : Option Addr) (c : Nat) (y : BelW V) (hr : Rd y.w A (ints l)) :
    Calls Try.prog 12 #[.int .i64 t, .slice A n c] y.w (ShC1 V n x) := by
  subst hl
  refine (share_any t A c l hn y.w hr).mono ?_
  rintro e w' (⟨g, x', rfl, _, _, _, hx', hI, hB⟩ | ⟨_, hno, _⟩)
  · obtain rfl := hx'.unique hx
    exact ⟨g, rfl, ⟨w', below_next y.2 hB⟩, rfl, hI.rd⟩
  · exact absurd ⟨hw, h0, h1⟩ hno
theorem share_nil {V : World} (t : Int) (l : List Int) (n : Nat) (hl : l.length = n) (hn : n ≤ 9223372036854775807) (hno : ¬ (Wt l ∧ 0 ≤ t ∧ t ≤ l.sum)) (A : Option Addr) (c : Nat) (y : BelW V) (hr : Rd y.w A (ints l)) :
    Calls Try.prog 12 #[.int .i64 t, .slice A n c] y.w fun e w' => e = .returned (.tuple #[.slice none 0 0, .bool false]) ∧ ∃ z : BelW V, w' = z.w := by
  subst hl
  refine (share_any t A c l hn y.w hr).mono ?_
  rintro e w' (⟨g, x', rfl, a, b, c, _⟩ | ⟨rfl, _, hB⟩)
  · exact absurd ⟨a, b, c⟩ hno
  · exact ⟨rfl, ⟨w', below_next y.2 hB⟩, rfl⟩
theorem same_c {V : World} (A B : Option Addr) (ca cb : Nat) (a b : List Int) (na nb : Nat) (ha : a.length = na) (hb : b.length = nb) (hna : na ≤ 9223372036854775807) (hnb : nb ≤ 9223372036854775807) (r : Bool) (hr : decide (a = b) = r) (y : BelW V) (hra : Rd y.w A (ints a)) (hrb : Rd y.w B (ints b)) :
    Calls Try.prog 16 #[.slice A na ca, .slice B nb cb] y.w fun e w' => e = .returned (.bool r) ∧ ∃ z : BelW V, w' = z.w := by
  subst ha hb hr
  exact bel_of (same_any A B ca cb a b hna hnb y.w hra hrb)
theorem sum_c {V : World} (A : Option Addr) (c : Nat) (l : List Int) (n : Nat) (hl : l.length = n) (hn : n ≤ 9223372036854775807) (hf : ∀ i, i < n → Fit (gi l i)) (v : Int) (b : Bool) (hv : sumF l = (v, b)) (y : BelW V) (hr : Rd y.w A (ints l)) :
    Calls Try.prog 14 #[.slice A n c] y.w fun e w' => e = .returned (.tuple #[.int .i64 v, .bool b]) ∧ ∃ z : BelW V, w' = z.w := by
  subst hl
  exact bel_of (by have h := sum_any A c l hn hf y.w hr; rw [hv] at h; exact h)
theorem scale_c {V : World} (a n d q r : Int) (b : Bool) (h : Xa.scale a n d = (q, r, b)) (y : BelW V) :
    Calls Try.prog 10 #[.int .i64 a, .int .i64 n, .int .i64 d] y.w fun e w' => e = .returned (.tuple #[.int .i64 q, .int .i64 r, .bool b]) ∧ ∃ z : BelW V, w' = z.w :=
  bel_of_drew (by have h' := scale_any a n d y.w; rw [h] at h'; exact h')
theorem add_c {V : World} (a b v : Int) (ha : Fit a) (hb : Fit b) (h : Xa.add a b = v) (y : BelW V) :
    Calls Try.prog 19 #[.int .i64 a, .int .i64 b] y.w fun e w' => e = .returned (.int .i64 v) ∧ ∃ z : BelW V, w' = z.w :=
  bel_of_same (by have h' := add_any a b ha.1 ha.2 hb.1 hb.2 y.w; rw [h] at h'; exact h')
theorem sub_c {V : World} (a b v : Int) (ha : Fit a) (hb : Fit b) (h : Xa.sub a b = v) (y : BelW V) :
    Calls Try.prog 21 #[.int .i64 a, .int .i64 b] y.w fun e w' => e = .returned (.int .i64 v) ∧ ∃ z : BelW V, w' = z.w :=
  bel_of_same (by have h' := sub_any a b ha.1 ha.2 hb.1 hb.2 y.w; rw [h] at h'; exact h')
theorem clamp_c {V : World} (n lo hi v : Int) (h : Xa.clamp n lo hi = v) (y : BelW V) :
    Calls Try.prog 17 #[.int .i64 n, .int .i64 lo, .int .i64 hi] y.w fun e w' => e = .returned (.int .i64 v) ∧ ∃ z : BelW V, w' = z.w :=
  bel_of_same (by have h' := clamp_any n lo hi y.w; rw [h] at h'; exact h')

theorem wA : Wt [1, 1, 1, 20] := ⟨by decide, by decide, by decide⟩
theorem wB : Wt [1, 1, 1] := ⟨by decide, by decide, by decide⟩
theorem pA : ShareP 10 [1, 1, 1, 20] [1, 0, 0, 9] := ⟨rfl, rfl, by decide, fun i j hi hj => (show ∀ i, i < 4 → ∀ j, j < 4 → gi [1, 0, 0, 9] i = qq 10 [1, 1, 1, 20] i + 1 → gi [1, 0, 0, 9] j = qq 10 [1, 1, 1, 20] j → (rr 10 [1, 1, 1, 20] j < rr 10 [1, 1, 1, 20] i ∨ (rr 10 [1, 1, 1, 20] i = rr 10 [1, 1, 1, 20] j ∧ i < j)) from by decide) i hi j hj⟩
theorem pB : ShareP 2 [1, 1, 1] [1, 1, 0] := ⟨rfl, rfl, by decide, fun i j hi hj => (show ∀ i, i < 3 → ∀ j, j < 3 → gi [1, 1, 0] i = qq 2 [1, 1, 1] i + 1 → gi [1, 1, 0] j = qq 2 [1, 1, 1] j → (rr 2 [1, 1, 1] j < rr 2 [1, 1, 1] i ∨ (rr 2 [1, 1, 1] i = rr 2 [1, 1, 1] j ∧ i < j)) from by decide) i hi j hj⟩
theorem pC : ¬ (Wt [1, 2] ∧ (0 : Int) ≤ 4 ∧ 4 ≤ ([1, 2] : List Int).sum) := fun h => absurd h.2.2 (by decide)
theorem pS : sumF [9223372036854775807, 1, -2] = (9223372036854775806, true) := by decide

set_option maxHeartbeats 8000000 in
set_option maxRecDepth 100000 in
theorem small_any (w : World) :
    Calls Try.prog 9 #[] w fun e w' => e = .returned (.bool true) ∧ Below w.heap.size w w' := by
  refine rebase w (fun V hV x0 => ?_)
  subst hV
  go_enter Try.func9, Try.ntmps9
  go_upto_region 5 with (first
    | (go_at_call 10; with_reducible refine (scale_c 10 1 3 3 1 true (by decide) _).mono ?_; rintro e w' ⟨rfl, y, rfl⟩)
    | (go_at_call 10; with_reducible refine (scale_c 1125899906842624 1125899906842624 1125899906842624 1125899906842624 0 true (by decide) _).mono ?_; rintro e w' ⟨rfl, y, rfl⟩)
    | (go_at_call 10; with_reducible refine (scale_c 1125899906842624 2 1 0 0 false (by decide) _).mono ?_; rintro e w' ⟨rfl, y, rfl⟩)
    | (go_at_call 10; with_reducible refine (scale_c 1 1 0 0 0 false (by decide) _).mono ?_; rintro e w' ⟨rfl, y, rfl⟩))
  have hB0 : Below V.heap.size V y.w := y.2
  go_wp2_with fail
  refine (share_yes 10 [1, 1, 1, 20] [1, 0, 0, 9] 4 rfl (by decide) wA (by decide) (by decide) pA _ _ (y.al _) (ints_rd_new y.w [1, 1, 1, 20] 3)).mono ?_
  rintro e w' ⟨g1, rfl, z1, rfl, hr1⟩
  go_upto_region 6 with fail
  refine wp_rebase _ (fun V1 hV1 x1 => ?_)
  have HB1 := Lib.hid (show Below V.heap.size V V1 by rw [hV1]; exact z1.2)
  rw [← hV1] at hr1
  clear hV1
  go_wp2_with fail
  refine (share_yes 2 [1, 1, 1] [1, 1, 0] 3 rfl (by decide) wB (by decide) (by decide) pB _ _ (x1.al _) (ints_rd_new x1.w [1, 1, 1] 3)).mono ?_
  rintro e w' ⟨g2, rfl, z2, rfl, hr2⟩
  go_upto_region 7 with fail
  refine wp_rebase _ (fun V2 hV2 x2 => ?_)
  have HB2 := Lib.hid (show Below V.heap.size V V2 by rw [hV2]; exact below_next HB1.out z2.2)
  have HR1 := Lib.hid (show Rd V2 (some ⟨g1, 0, none⟩) (ints [1, 0, 0, 9]) by rw [hV2]; exact hr1.bel z2)
  rw [← hV2] at hr2
  have HR2 := Lib.hid hr2
  clear hV2 hr1 hr2
  have S1 := Lib.hid (show ∀ y : BelW V2, Calls Try.prog 12 #[.int .i64 4, .slice (some ⟨y.w.heap.size, 0, none⟩) 2 2] (y.w.alloc (.cells #[.int .i64 1, .int .i64 2] 3)) fun e w' => e = .returned (.tuple #[.slice none 0 0, .bool false]) ∧ ∃ z : BelW V2, w' = z.w from
    fun y => share_nil (V := V2) 4 [1, 2] 2 rfl (by decide) pC _ 2 (y.al _) (ints_rd_new y.w [1, 2] 3))
  have S2 := Lib.hid (show ∀ y : BelW V2, Calls Try.prog 14 #[.slice (some ⟨y.w.heap.size, 0, none⟩) 3 3] (y.w.alloc (.cells #[.int .i64 9223372036854775807, .int .i64 1, .int .i64 (-2)] 3)) fun e w' => e = .returned (.tuple #[.int .i64 9223372036854775806, .bool true]) ∧ ∃ z : BelW V2, w' = z.w from
    fun y => sum_c (V := V2) _ 3 [9223372036854775807, 1, -2] 3 rfl (by decide) (by unfold Fit; decide) _ _ pS (y.al _) (ints_rd_new y.w [9223372036854775807, 1, -2] 3))
  have S3 := Lib.hid (show ∀ y : BelW V2, Calls Try.prog 16 #[.slice (some ⟨g1, 0, none⟩) 4 4, .slice (some ⟨y.w.heap.size, 0, none⟩) 4 4] (y.w.alloc (.cells #[.int .i64 1, .int .i64 0, .int .i64 0, .int .i64 9] 3)) fun e w' => e = .returned (.bool true) ∧ ∃ z : BelW V2, w' = z.w from
    fun y => same_c (V := V2) (some ⟨g1, 0, none⟩) _ 4 4 [1, 0, 0, 9] [1, 0, 0, 9] 4 4 rfl rfl (by decide) (by decide) true (by decide) (y.al _) ((HR1.out.bel y).alloc _) (ints_rd_new y.w [1, 0, 0, 9] 3))
  have S4 := Lib.hid (show ∀ y : BelW V2, Calls Try.prog 16 #[.slice (some ⟨g2, 0, none⟩) 3 3, .slice (some ⟨y.w.heap.size, 0, none⟩) 3 3] (y.w.alloc (.cells #[.int .i64 1, .int .i64 1, .int .i64 0] 3)) fun e w' => e = .returned (.bool true) ∧ ∃ z : BelW V2, w' = z.w from
    fun y => same_c (V := V2) (some ⟨g2, 0, none⟩) _ 3 3 [1, 1, 0] [1, 1, 0] 3 3 rfl rfl (by decide) (by decide) true (by decide) (y.al _) ((HR2.out.bel y).alloc _) (ints_rd_new y.w [1, 1, 0] 3))
  go_wp2_with (first
    | (go_at_call 12; with_reducible refine (S1.out _).mono ?_; rintro e w' ⟨rfl, y, rfl⟩)
    | (go_at_call 14; with_reducible refine (S2.out _).mono ?_; rintro e w' ⟨rfl, y, rfl⟩)
    | (go_at_call 16; with_reducible refine (S3.out _).mono ?_; rintro e w' ⟨rfl, y, rfl⟩)
    | (go_at_call 16; with_reducible refine (S4.out _).mono ?_; rintro e w' ⟨rfl, y, rfl⟩)
    | (go_at_call 19; with_reducible refine (add_c 9223372036854775807 1 9223372036854775807 (by unfold Fit; decide) (by unfold Fit; decide) (by decide) _).mono ?_; rintro e w' ⟨rfl, y, rfl⟩)
    | (go_at_call 21; with_reducible refine (sub_c (-9223372036854775808) 1 (-9223372036854775808) (by unfold Fit; decide) (by unfold Fit; decide) (by decide) _).mono ?_; rintro e w' ⟨rfl, y, rfl⟩)
    | (go_at_call 17; with_reducible refine (clamp_c 3 5 4 5 (by decide) _).mono ?_; rintro e w' ⟨rfl, y, rfl⟩))
  go_ret
  exact ⟨rfl, below_next HB2.out y.2⟩

end Go.Proofs.Ytemdnfodpijncaa
