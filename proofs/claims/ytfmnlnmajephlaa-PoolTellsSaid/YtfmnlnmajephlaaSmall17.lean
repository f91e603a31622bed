/- The head of the laws of pool: the fixed example. -/
import Derived.Test.YtfmnlnmajephlaaSame17
import Derived.Deep.AppendLies
namespace Go.Proofs.Ytfmnlnmajephlaa
open Go.RowKit
set_option linter.unusedVariables false
set_option linter.unusedSimpArgs false

theorem ints_rd_new (w : World) (l : List Int) (t : TypeId) : Rd (w.alloc (.cells (ints l).toArray t)) (some ⟨w.heap.size, 0, none⟩) (ints l) := fun _ => by
  refine ⟨⟨w.heap.size, 0, none⟩, rfl, by rw [World.size_alloc]; exact Nat.lt_succ_self _, fun j u hu => ?_⟩
  exact World.news_of_block (cs := (ints l).toArray) (t := t) (fr := (0, 0)) (heap_alloc_new w _) j u (by simpa using hu)
def BelW.al {V : World} (y : BelW V) (o : Obj) : BelW V := ⟨y.w.alloc o, bel_alloc y.2 o⟩
theorem same_c {V : World} (A B : Option Addr) (ca cb : Nat) (a b : List Int) (na nb : Nat) (ha : a.length = na) (hb : b.length = nb) (hna : na ≤ 9223372036854775807) (hnb : nb ≤ 9223372036854775807) (r : Bool) (hr : decide (a = b) = r) (y : BelW V) (hra : Rd y.w A (ints a)) (hrb : Rd y.w B (ints b)) :
    Calls Try.prog 15 #[.slice A na ca, .slice B nb cb] y.w fun e w' => e = .returned (.bool r) ∧ ∃ z : BelW V, w' = z.w := by
  subst ha hb hr
  exact bel_of (same_any A B ca cb a b hna hnb y.w hra hrb)
theorem total_c {V : World} (A : Option Addr) (c : Nat) (p : List Int) (n : Nat) (hp : p.length = n) (hn : n ≤ 9223372036854775807) (hf : ∀ i, i < n → Fit (gi p i)) (v : Int) (hv : tot p n = v) (y : BelW V) (hr : Rd y.w A (ints p)) :
    Calls Try.prog 11 #[.slice A n c] y.w fun e w' => e = .returned (.int .i64 v) ∧ ∃ z : BelW V, w' = z.w := by
  subst hp hv
  exact bel_of (total_any A c p hn hf y.w hr)
theorem right_c {V : World} (A : Option Addr) (c : Nat) (p : List Int) (n : Nat) (o : Int) (hp : p.length = n) (hn : n ≤ 9223372036854775807) (b : Bool) (hb : rightF p o = b) (y : BelW V) (hr : Rd y.w A (ints p)) :
    Calls Try.prog 9 #[.slice A n c, .int .i64 o] y.w fun e w' => e = .returned (.bool b) ∧ ∃ z : BelW V, w' = z.w := by
  subst hp hb
  exact bel_of (right_any A c p o hn y.w hr)
theorem rightF_iff {p : List Int} {o : Int} : rightF p o = true ↔ 0 ≤ o ∧ o ≤ 16 ∧ (p.length : Int) = o ∧ RiP p := by
  unfold rightF
  simp only [Bool.and_eq_true, decide_eq_true_eq, riB_iff, and_assoc]

theorem fit_of {p : List Int} (h : ∀ x ∈ p, Fit x) : ∀ i, i < p.length → Fit (gi p i) := fun i hi => by
  have : gi p i = p[i] := by simp [gi, List.getD, hi]
  rw [this]
  exact h _ (List.getElem_mem hi)
theorem riA : RiP [10, 20, 30] := ⟨by decide, by decide⟩
theorem riE : RiP [2, 10] := ⟨by decide, by decide⟩
theorem shA : ShareP 6 [10, 20, 30] [1, 2, 3] := ⟨rfl, rfl, by decide, fun i j hi hj => (show ∀ i, i < 3 → ∀ j, j < 3 → gi [1, 2, 3] i = qq 6 [10, 20, 30] i + 1 → gi [1, 2, 3] j = qq 6 [10, 20, 30] j → (rr 6 [10, 20, 30] j < rr 6 [10, 20, 30] i ∨ (rr 6 [10, 20, 30] i = rr 6 [10, 20, 30] j ∧ i < j)) from by decide) i hi j hj⟩
theorem tkA {T : List Int} (h : TakeQ [10, 20, 30] 6 T) : T = [1, 2, 3] := by
  rcases h with ⟨_, _, _, h⟩ | ⟨h, _⟩
  · exact ShareP.unique (show ShareP 6 [10, 20, 30] T from h) shA
  · exact absurd ⟨by decide, by decide, riA⟩ h

set_option maxHeartbeats 8000000 in
set_option maxRecDepth 100000 in
theorem small_any (w : World) :
    Calls Try.prog 8 #[] w fun e w' => e = .returned (.bool true) ∧ Below w.heap.size w w' := by
  refine rebase w (fun V hV x0 => ?_)
  subst hV
  go_enter Try.func8, Try.ntmps8
  go_wp2_with fail
  refine (take_any (some ⟨x0.w.heap.size, 0, none⟩) 3 [10, 20, 30] (by decide) (by unfold Fit; decide) 6 _ (ints_rd_new x0.w [10, 20, 30] 3)).mono ?_
  rintro e w1 ⟨g1, g2, T, rfl, hT, _, hI1, hI2, hB1⟩
  obtain rfl := tkA hT
  have hB1' : Below V.heap.size V w1 := below_next x0.2 (below_next (bel_alloc (Below.refl _ _) _) hB1)
  clear hT
  go_upto_region 2 with fail
  refine wp_rebase _ (fun V1 hV1 x1 => ?_)
  subst hV1
  go_wp2_with fail
  refine (from_any (some ⟨x1.w.heap.size, 0, none⟩) 2 [5, 7] 2 rfl (by decide) (by unfold Fit; decide) 1 10 _ (ints_rd_new x1.w [5, 7] 3)).mono ?_
  rintro e w2 ⟨g3, g4, T, rfl, hT, _, hI3, hI4, hB2⟩
  obtain rfl : T = [0, 7] := hT.trans (by decide)
  have hb2 : Below V1.heap.size V1 w2 := below_next x1.2 (below_next (bel_alloc (Below.refl _ _) _) hB2)
  have hB2' := below_next hB1' hb2
  have hI1 := hI1.next hb2
  have hI2 := hI2.next hb2
  clear hT
  go_upto_region 3 with fail
  refine wp_rebase _ (fun V2 hV2 x2 => ?_)
  subst hV2
  go_wp2_with fail
  refine (give_any (some ⟨x2.w.heap.size, 0, none⟩) 2 [5, 7] 2 rfl (by decide) (by unfold Fit; decide) 0 1 3 _ (ints_rd_new x2.w [5, 7] 3)).mono ?_
  rintro e w3 ⟨g5, rfl, hI5, hB3⟩
  have hb3 : Below V2.heap.size V2 w3 := below_next x2.2 (below_next (bel_alloc (Below.refl _ _) _) hB3)
  have HB3 := Lib.hid (below_next hB2' hb3)
  have e5 : giveF [5, 7] 0 1 3 = [2, 10] := by unfold giveF; decide
  rw [e5] at hI5
  have HI1 := Lib.hid (hI1.next hb3)
  have HI2 := Lib.hid (hI2.next hb3)
  have HI3 := Lib.hid (hI3.next hb3)
  have HI4 := Lib.hid (hI4.next hb3)
  have HI5 := Lib.hid hI5
  clear hI1 hI2 hI3 hI4 hI5 hB1 hB2 hB3 hb2 hb3 hB1' hB2' e5
  go_upto_region 4 with fail
  refine wp_rebase _ (fun V3 hV3 x3 => ?_)
  subst hV3
  have S1 := Lib.hid (show ∀ y : BelW V3, Calls Try.prog 15 #[.slice (some ⟨g1, 0, none⟩) 3 3, .slice (some ⟨y.w.heap.size, 0, none⟩) 3 3] (y.w.alloc (.cells #[.int .i64 1, .int .i64 2, .int .i64 3] 3)) fun e w' => e = .returned (.bool true) ∧ ∃ z : BelW V3, w' = z.w from
    fun y => same_c (V := V3) (some ⟨g1, 0, none⟩) _ 3 3 [1, 2, 3] [1, 2, 3] 3 3 rfl rfl (by decide) (by decide) true (by decide) (y.al _) ((HI1.out.rd.bel y).alloc _) (ints_rd_new y.w [1, 2, 3] 3))
  have S2 := Lib.hid (show ∀ y : BelW V3, Calls Try.prog 15 #[.slice (some ⟨g2, 0, none⟩) 3 3, .slice (some ⟨y.w.heap.size, 0, none⟩) 3 3] (y.w.alloc (.cells #[.int .i64 9, .int .i64 18, .int .i64 27] 3)) fun e w' => e = .returned (.bool true) ∧ ∃ z : BelW V3, w' = z.w from
    fun y => same_c (V := V3) (some ⟨g2, 0, none⟩) _ 3 3 [9, 18, 27] [9, 18, 27] 3 3 rfl rfl (by decide) (by decide) true (by decide) (y.al _) ((HI2.out.rd.bel y).alloc _) (ints_rd_new y.w [9, 18, 27] 3))
  have S3 := Lib.hid (show ∀ y : BelW V3, Calls Try.prog 15 #[.slice (some ⟨g3, 0, none⟩) 2 2, .slice (some ⟨y.w.heap.size, 0, none⟩) 2 2] (y.w.alloc (.cells #[.int .i64 0, .int .i64 7] 3)) fun e w' => e = .returned (.bool true) ∧ ∃ z : BelW V3, w' = z.w from
    fun y => same_c (V := V3) (some ⟨g3, 0, none⟩) _ 2 2 [0, 7] [0, 7] 2 2 rfl rfl (by decide) (by decide) true (by decide) (y.al _) ((HI3.out.rd.bel y).alloc _) (ints_rd_new y.w [0, 7] 3))
  have S4 := Lib.hid (show ∀ y : BelW V3, Calls Try.prog 15 #[.slice (some ⟨g4, 0, none⟩) 2 2, .slice (some ⟨y.w.heap.size, 0, none⟩) 2 2] (y.w.alloc (.cells #[.int .i64 5, .int .i64 0] 3)) fun e w' => e = .returned (.bool true) ∧ ∃ z : BelW V3, w' = z.w from
    fun y => same_c (V := V3) (some ⟨g4, 0, none⟩) _ 2 2 [5, 0] [5, 0] 2 2 rfl rfl (by decide) (by decide) true (by decide) (y.al _) ((HI4.out.rd.bel y).alloc _) (ints_rd_new y.w [5, 0] 3))
  have S5 := Lib.hid (show ∀ y : BelW V3, Calls Try.prog 15 #[.slice (some ⟨g5, 0, none⟩) 2 2, .slice (some ⟨y.w.heap.size, 0, none⟩) 2 2] (y.w.alloc (.cells #[.int .i64 2, .int .i64 10] 3)) fun e w' => e = .returned (.bool true) ∧ ∃ z : BelW V3, w' = z.w from
    fun y => same_c (V := V3) (some ⟨g5, 0, none⟩) _ 2 2 [2, 10] [2, 10] 2 2 rfl rfl (by decide) (by decide) true (by decide) (y.al _) ((HI5.out.rd.bel y).alloc _) (ints_rd_new y.w [2, 10] 3))
  have S6 := Lib.hid (fun y : BelW V3 => total_c (some ⟨g5, 0, none⟩) 2 [2, 10] 2 rfl (by decide) (by unfold Fit; decide) 12 (by decide) y (HI5.out.rd.bel y))
  have S7 := Lib.hid (fun y : BelW V3 => right_c (some ⟨g5, 0, none⟩) 2 [2, 10] 2 2 rfl (by decide) true (rightF_iff.2 ⟨by decide, by decide, by decide, riE⟩) y (HI5.out.rd.bel y))
  go_wp2_with (first
    | (go_at_call 15; with_reducible refine (S1.out _).mono ?_; rintro e w' ⟨rfl, y, rfl⟩)
    | (go_at_call 15; with_reducible refine (S2.out _).mono ?_; rintro e w' ⟨rfl, y, rfl⟩)
    | (go_at_call 15; with_reducible refine (S3.out _).mono ?_; rintro e w' ⟨rfl, y, rfl⟩)
    | (go_at_call 15; with_reducible refine (S4.out _).mono ?_; rintro e w' ⟨rfl, y, rfl⟩)
    | (go_at_call 15; with_reducible refine (S5.out _).mono ?_; rintro e w' ⟨rfl, y, rfl⟩)
    | (go_at_call 11; with_reducible refine (S6.out _).mono ?_; rintro e w' ⟨rfl, y, rfl⟩)
    | (go_at_call 9; with_reducible refine (S7.out _).mono ?_; rintro e w' ⟨rfl, y, rfl⟩))
  go_ret
  exact ⟨rfl, below_next HB3.out y.2⟩

end Go.Proofs.Ytfmnlnmajephlaa
