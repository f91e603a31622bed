/- Part 16 of the proof of TopRights: slices.insertionSortCmpFunc: the shelf's contract laid at this seat. cmp.Compare, cmp.Or, right.Order's comparison. right.Order's comparison. slices.SortStableFunc of at most 19 rights. -/
import Derived.Test.YtngjakahanmepaaGreatDoorM15
import Derived.Shelf.SlSortCmp.InsertionK
namespace Go.Proofs.YtngjakahanmepaaGreatDoor
open Go.RowKit Go.Shelf
set_option linter.unusedVariables false
set_option linter.unusedSimpArgs false
def sl20_ren : Go.Shelf.Ren := ⟨fun | 20 => 116 | n => n, fun | 22 => 37 | 24 => 46 | 25 => 132 | n => n, fun | n => n⟩
theorem sl20 : Go.Proofs.SlLaysF0.n20 Tryz.prog sl20_ren := {
  mixed := by kernel_rfl,
  f20 := ⟨"slices.insertionSortCmpFunc[bourne/api.Right]", by decide, Tryz.func116.trans (congrArg some (by kernel_rfl))⟩,
  t0 := Tryz.underlying0,
  a0 := Tryz.isAgg0,
  z0 := Tryz.sizeOf0,
  v0 := Tryz.zeroValue0,
  t3 := Tryz.underlying3,
  a3 := Tryz.isAgg3,
  z3 := Tryz.sizeOf3,
  v3 := Tryz.zeroValue3,
  t4 := Tryz.underlying4,
  a4 := Tryz.isAgg4,
  z4 := Tryz.sizeOf4,
  v4 := Tryz.zeroValue4,
  t22 := Tryz.underlying37,
  a22 := Tryz.isAgg37,
  z22 := Tryz.sizeOf37,
  v22 := Tryz.zeroValue37,
  t25 := Tryz.underlying132,
  a25 := Tryz.isAgg132,
  z25 := Tryz.sizeOf132,
  v25 := Tryz.zeroValue132 }
end Go.Proofs.YtngjakahanmepaaGreatDoor
namespace Go.Proofs.YtngjakahanmepaaGreatDoor
open Go.RowKit Go.Shelf
set_option linter.unusedVariables false
set_option linter.unusedSimpArgs false
def cmpI (x y : Int) : Int := if x < y then -1 else if y < x then 1 else 0
theorem nan_any (x : Int) (w : World) : Calls Tryz.prog 96 #[.int .i64 x] w fun e w' => e = .returned (.bool false) ∧ w' = w := by
  have t1 : (x != x) = false := by simp
  go_enter Tryz.func96, Tryz.ntmps96
  go_wp2_with fail
  go_ret
  exact ⟨rfl, rfl⟩
theorem compare_any (x y : Int) (w : World) : Calls Tryz.prog 57 #[.int .i64 x, .int .i64 y] w fun e w' => e = .returned (.int .i64 (cmpI x y)) ∧ w' = w := by
  unfold cmpI
  by_cases h1 : x < y
  · have t1 : decide (x < y) = true := decide_eq_true h1
    rw [if_pos h1]
    clear h1
    go_enter Tryz.func57, Tryz.ntmps57
    go_wp2_with (first | (go_at_call 96; (with_reducible refine (nan_any _ _).mono ?_); rintro e w1 ⟨rfl, rfl⟩))
    go_ret
    exact ⟨rfl, rfl⟩
  · have t1 : decide (x < y) = false := decide_eq_false h1
    rw [if_neg h1]
    by_cases h2 : y < x
    · have t2 : decide (y < x) = true := decide_eq_true h2
      rw [if_pos h2]
      clear h1 h2
      go_enter Tryz.func57, Tryz.ntmps57
      go_wp2_with (first | (go_at_call 96; (with_reducible refine (nan_any _ _).mono ?_); rintro e w1 ⟨rfl, rfl⟩))
      go_ret
      exact ⟨rfl, rfl⟩
    · have t2 : decide (y < x) = false := decide_eq_false h2
      rw [if_neg h2]
      clear h1 h2
      go_enter Tryz.func57, Tryz.ntmps57
      go_wp2_with (first | (go_at_call 96; (with_reducible refine (nan_any _ _).mono ?_); rintro e w1 ⟨rfl, rfl⟩))
      go_ret
      exact ⟨rfl, rfl⟩
def orI (x y : Int) : Int := if x = 0 then y else x
/-- cmp.Or of two numbers -/
theorem or_any (b : Nat) (c : Nat) (x y : Int) (w : World) (h0 : w.cell? ⟨b, 0, none⟩ = some (.int .i64 x)) (h1 : w.cell? ⟨b, 1, none⟩ = some (.int .i64 y)) :
    Calls Tryz.prog 56 #[.slice (some ⟨b, 0, none⟩) 2 c] w fun e w' => e = .returned (.int .i64 (orI x y)) ∧ w' = w := by
  unfold orI
  have h1' : w.cell? ((⟨b, 0, none⟩ : Addr).add 1) = some (.int .i64 y) := h1
  have h0' : w.cell? ((⟨b, 0, none⟩ : Addr).add 0) = some (.int .i64 x) := h0
  by_cases hx : x = 0
  · rw [if_pos hx]
    subst hx
    by_cases hy : y = 0
    · subst hy
      go_enter Tryz.func56, Tryz.ntmps56
      go_wp2_with fail
      refine wp_loop_rounds 3 ?_
      rw [rounds_succ]
      go_wp2_with fail
      rw [rounds_succ]
      go_wp2_with fail
      rw [rounds_succ]
      go_wp2_with fail
      go_ret
      exact ⟨rfl, rfl⟩
    · have t1 : (y != 0) = true := bne_iff_ne.2 hy
      clear hy
      go_enter Tryz.func56, Tryz.ntmps56
      go_wp2_with fail
      refine wp_loop_rounds 3 ?_
      rw [rounds_succ]
      go_wp2_with fail
      rw [rounds_succ]
      go_wp2_with fail
      go_ret
      exact ⟨rfl, rfl⟩
  · rw [if_neg hx]
    have t1 : (x != 0) = true := bne_iff_ne.2 hx
    clear hx
    go_enter Tryz.func56, Tryz.ntmps56
    go_wp2_with fail
    refine wp_loop_rounds 3 ?_
    rw [rounds_succ]
    go_wp2_with fail
    go_ret
    exact ⟨rfl, rfl⟩
end Go.Proofs.YtngjakahanmepaaGreatDoor
namespace Go.Proofs.YtngjakahanmepaaGreatDoor
open Go.RowKit Go.Shelf Go.Lib Go.Sort
set_option linter.unusedVariables false
set_option linter.unusedSimpArgs false
def cfR (x y : Rt) : Int := orI (cmpI x.date y.date) (cmpI x.id y.id)
set_option maxHeartbeats 8000000 in
set_option maxRecDepth 100000 in
theorem order_cmp (x y : Rt) (W : World) : Calls Tryz.prog 55 #[.agg #[.int .i64 x.id, .int .i64 x.own, .int .i64 x.date, .int .i64 x.pla, .int .i64 x.rate, .int .i64 x.fr, .int .i64 x.un, .int .i64 x.bk, .int .i64 x.bt], .agg #[.int .i64 y.id, .int .i64 y.own, .int .i64 y.date, .int .i64 y.pla, .int .i64 y.rate, .int .i64 y.fr, .int .i64 y.un, .int .i64 y.bk, .int .i64 y.bt]] W fun e w' => e = .returned (.int .i64 (cfR x y)) ∧ ∃ q os', w' = grow (W.drewN q) os' := by
  have HCD := Lib.hid (fun w => compare_any x.date y.date w)
  have HCI := Lib.hid (fun w => compare_any x.id y.id w)
  unfold cfR
  obtain ⟨u, hu⟩ : ∃ u, cmpI x.date y.date = u := ⟨_, rfl⟩
  obtain ⟨v, hv⟩ : ∃ v, cmpI x.id y.id = v := ⟨_, rfl⟩
  rw [hu, hv]
  rw [hu] at HCD
  rw [hv] at HCI
  clear hu hv
  go_enter Tryz.func55, Tryz.ntmps55
  go_upto_region 1 with fail
  refine wp_named _ (fun V hV => ?_)
  have HG := Lib.hid (show ∃ os', V = grow W os' from ⟨_, by rw [hV, alloc_eq_grow, alloc_eq_grow, grow_grow]⟩)
  have a2 : V.cell? ⟨W.heap.size, 2, none⟩ = some (.int .i64 x.date) := by rw [hV]; exact cell_alloc (by rw [World.cell?_alloc_at _ _ _ _ rfl]; rfl) _
  have a0 : V.cell? ⟨W.heap.size, 0, none⟩ = some (.int .i64 x.id) := by rw [hV]; exact cell_alloc (by rw [World.cell?_alloc_at _ _ _ _ rfl]; rfl) _
  have b2 : V.cell? ⟨W.heap.size + 1, 2, none⟩ = some (.int .i64 y.date) := by rw [hV, World.cell?_alloc_at _ _ _ _ (by rw [World.size_alloc])]; rfl
  have b0 : V.cell? ⟨W.heap.size + 1, 0, none⟩ = some (.int .i64 y.id) := by rw [hV, World.cell?_alloc_at _ _ _ _ (by rw [World.size_alloc])]; rfl
  clear hV
  have HCD2 := Lib.hid (fun n : Nat => (show Calls Tryz.prog 57 #[.int .i64 x.date, .int .i64 y.date] (V.drewN n) fun e w' => e = .returned (.int .i64 u) ∧ ∃ m, w' = V.drewN m from (HCD.out _).mono fun _ _ h => ⟨h.1, n, h.2⟩))
  have HCI2 := Lib.hid (fun n : Nat => (show Calls Tryz.prog 57 #[.int .i64 x.id, .int .i64 y.id] (V.drewN n) fun e w' => e = .returned (.int .i64 v) ∧ ∃ m, w' = V.drewN m from (HCI.out _).mono fun _ _ h => ⟨h.1, n, h.2⟩))
  refine wp_region_quiet_tail (C := fun w' => ∃ n, w' = V.drewN n) 10 (by kernel_rfl) (by kernel_rfl) ⟨1, rfl⟩ ?_
  simp only [List.take_succ_cons, List.take_zero, List.drop_succ_cons, List.drop_zero]
  repeat (go_big_quiet_step ((first | (go_at_call 57; with_reducible exact HCD2.out _) | (go_at_call 57; with_reducible exact HCI2.out _))))
  refine wpQuiet_nil ?_
  rintro w' ⟨n, rfl⟩
  have HGN := Lib.hid (show ∃ q os', V.drewN n = grow (W.drewN q) os' from by obtain ⟨os', h⟩ := HG.out; exact ⟨n, os', by rw [h]; rfl⟩)
  clear HCD HCI HCD2 HCI2 a0 a2 b0 b2
  obtain ⟨Y, hY⟩ : ∃ Y, V.drewN n = Y := ⟨_, rfl⟩
  rw [hY] at HGN ⊢
  clear hY HG
  have CO := Lib.hid (fun t => or_any Y.heap.size 2 u v (Y.alloc (.cells #[.int .i64 u, .int .i64 v] t)) (by rw [World.cell?_alloc_at _ _ _ _ rfl]; rfl) (by rw [World.cell?_alloc_at _ _ _ _ rfl]; rfl))
  go_wp2_with (first | (go_at_call 56; (with_reducible refine (CO.out _).mono ?_); rintro e w1 ⟨rfl, rfl⟩))
  go_ret
  obtain ⟨q, os', h⟩ := HGN.out
  exact ⟨rfl, q, _, by rw [h, alloc_eq_grow, grow_grow]⟩
end Go.Proofs.YtngjakahanmepaaGreatDoor
namespace Go.Proofs.YtngjakahanmepaaGreatDoor
open Go.RowKit Go.Shelf Go.Lib Go.Sort
set_option linter.unusedVariables false
set_option linter.unusedSimpArgs false
instance : Inhabited Rt := ⟨rt0⟩
theorem cmp_lays (blk off size : Nat) (w : World) : CmpLays Tryz.prog 55 #[] rtc 9 cfR blk off size w := fun _ _ _ _ x y => order_cmp x y _
theorem order_enters : ∀ args w, (callFunc 55 args).run Tryz.prog w = .ok (.enter 55 args) w := enters_of Tryz.func55 (by kernel_rfl) rfl
theorem ins_any (blk off cap : Nat) (d : Array Rt) (w : World) (hH : HoldsK rtc 9 w blk off d) (hblk : blk < w.heap.size) (h19 : d.size ≤ 19) :
    Calls Tryz.prog 116 #[.slice (some ⟨blk, off, none⟩) d.size cap, .int .i64 0, .int .i64 d.size, .func (.func 55) #[] #[]] w fun e w' => e = .returned (.tuple #[]) ∧ ∃ n os, w' = sortWorldK rtc 9 w blk off n (Sort.insertionSort (ltOf cfR) d 0 d.size) os :=
  AnyQ.insertionSortCmpFunc sl20 9 Tryz.isAgg46 Tryz.sizeOf46 rtc (fun _ => rfl) (fun x v hv => by simp [rtc] at hv; rcases hv with rfl | rfl | rfl | rfl | rfl | rfl | rfl | rfl | rfl <;> rfl) cfR 55 #[] blk off cap 0 d.size d w order_enters (cmp_lays _ _ _ _) hH hblk (Nat.zero_le _) (Nat.le_refl _) (by omega)
set_option maxHeartbeats 4000000 in
theorem stable_any (blk off cap : Nat) (d : Array Rt) (w : World) (hH : HoldsK rtc 9 w blk off d) (hblk : blk < w.heap.size) (h19 : d.size ≤ 19) :
    Calls Tryz.prog 95 #[.slice (some ⟨blk, off, none⟩) d.size cap, .int .i64 d.size, .func (.func 55) #[] #[]] w fun e w' => e = .returned (.tuple #[]) ∧ ∃ n os, w' = sortWorldK rtc 9 w blk off n (Sort.insertionSort (ltOf cfR) d 0 d.size) os := by
  have HI := Lib.hid (ins_any blk off cap d w hH hblk h19)
  have t1 : decide ((20 : Int) ≤ (d.size : Int)) = false := decide_eq_false (by omega)
  have t2 : decide ((20 : Int) < (d.size : Int)) = false := decide_eq_false (by omega)
  obtain ⟨r, hr⟩ : ∃ r, Sort.insertionSort (ltOf cfR) d 0 d.size = r := ⟨_, rfl⟩
  rw [hr] at HI ⊢
  clear hH hr
  go_enter Tryz.func95, Tryz.ntmps95
  go_wp2_with fail
  refine wp_loop_rounds 1 ?_
  rw [rounds_succ]
  go_wp2_with (first | (go_at_call 116; (with_reducible refine HI.out.mono ?_); rintro e w' ⟨rfl, n, os, rfl⟩))
  refine wp_loop_rounds 1 ?_
  rw [rounds_succ]
  go_wp2_with fail
  go_end0
  exact ⟨rfl, n, os, rfl⟩
theorem sort_rights (blk off cap : Nat) (d : Array Rt) (w : World) (hH : HoldsK rtc 9 w blk off d) (hblk : blk < w.heap.size) (h19 : d.size ≤ 19) :
    Calls Tryz.prog 54 #[.slice (some ⟨blk, off, none⟩) d.size cap, .func (.func 55) #[] #[]] w fun e w' => e = .returned (.tuple #[]) ∧ ∃ n os, w' = sortWorldK rtc 9 w blk off n (Sort.insertionSort (ltOf cfR) d 0 d.size) os := by
  have HI := Lib.hid (stable_any blk off cap d w hH hblk h19)
  obtain ⟨r, hr⟩ : ∃ r, Sort.insertionSort (ltOf cfR) d 0 d.size = r := ⟨_, rfl⟩
  rw [hr] at HI ⊢
  clear hH hr
  go_enter Tryz.func54, Tryz.ntmps54
  go_wp2_with (first | (go_at_call 95; (with_reducible refine HI.out.mono ?_); rintro e w' ⟨rfl, n, os, rfl⟩))
  go_end0
  exact ⟨rfl, n, os, rfl⟩
end Go.Proofs.YtngjakahanmepaaGreatDoor
