/- Part 34 of the proof of TopRights: small(): its small functions: bit, span.Of, span.Has, gate.Move, gate.Ask at the lake's gate. small(): gate.asks, Ask, Move at the lake's gate. small(): boxes that a call made, together; gate.Move at the lake's gate. Boxes and a row that grows, together. No walk. -/
import Derived.Test.YtngjakahanmepaaGreatDoorM21
import Derived.Test.YtngjakahanmepaaGreatDoorM33
import Derived.Test.YtngjakahanmepaaGreatDoorM30
import Derived.Great.Walk
namespace Go.Proofs.YtngjakahanmepaaGreatDoor
open Go.RowKit
set_option linter.unusedVariables false
set_option linter.unusedSimpArgs false
set_option maxHeartbeats 4000000 in
theorem bit_is (w : World) : Calls Tryz.prog 46 #[.bool false] w fun e w' => e = .returned (.int .i64 0) ∧ Below w.heap.size w w' := by
  go_enter Tryz.func46, Tryz.ntmps46
  go_wp2_with fail
  go_ret
  exact ⟨rfl, by go_grown⟩
set_option maxHeartbeats 4000000 in
theorem spof_is (n : Int) (w : World) : Calls Tryz.prog 48 #[.int .i64 n] w fun e w' => e = .returned (.agg #[.int .i64 n, .int .i64 n]) ∧ Below w.heap.size w w' := by
  go_enter Tryz.func48, Tryz.ntmps48
  refine wp_rebase _ (fun V hV x0 => ?_)
  subst hV
  go_upto_region 1 with fail
  go_wp2_with (first | (with_reducible refine wpList_store_new (z := [.int .i64 0, .int .i64 0]) (cs := [.int .i64 n, .int .i64 n]) 109 _ _ (by with_reducible rfl) (by with_unfolding_all rfl) x0.w.heap.size (by with_reducible rfl) _ (by with_unfolding_all rfl) (by with_unfolding_all rfl) (by with_unfolding_all rfl) (by kernel_rfl) (by with_unfolding_all rfl) ?_))
  have hb : Below V.heap.size V (x0.w.alloc (.cells #[.int .i64 n, .int .i64 n] 109)) := below_next x0.2 (bel_alloc (Below.refl _ _) _)
  refine bodyPost_ret (v := .agg #[.int .i64 n, .int .i64 n]) ?_ rfl ⟨rfl, hb⟩
  have hc : (x0.w.alloc (.cells #[.int .i64 n, .int .i64 n] 109)).rangeAt x0.w.heap.size 0 [.int .i64 n, .int .i64 n] := range_new _ _ [.int .i64 n, .int .i64 n]
  have c0 := hc 0 _ rfl
  have c1 := hc 1 _ rfl
  simp [results, Tryz.results48, go_sem, c0, c1]
set_option maxHeartbeats 4000000 in
theorem sphas_is (lo hi n : Int) (h1 : lo ≤ n) (h2 : n ≤ hi) (w : World) : Calls Tryz.prog 44 #[.agg #[.int .i64 lo, .int .i64 hi], .int .i64 n] w fun e w' => e = .returned (.bool true) ∧ Below w.heap.size w w' := by
  have t1 : decide (lo ≤ n) = true := decide_eq_true h1
  have t2 : decide (n ≤ hi) = true := decide_eq_true h2
  clear h1 h2
  go_enter Tryz.func44, Tryz.ntmps44
  go_wp2_with fail
  go_ret
  exact ⟨rfl, by go_grown⟩
def partF (a n d : Int) : Int := if (Xa.scale a n d).2.2 = true then (Xa.scale a n d).1 else 0
set_option maxHeartbeats 4000000 in
theorem part_is (a n d : Int) (w : World) : Calls Tryz.prog 129 #[.int .i64 a, .int .i64 n, .int .i64 d] w fun e w' => e = .returned (.int .i64 (partF a n d)) ∧ Below w.heap.size w w' := by
  have CS := Lib.hid (fun W => scale_any a n d W)
  unfold partF
  obtain ⟨⟨q, r, b⟩, hx⟩ : ∃ x, Xa.scale a n d = x := ⟨_, rfl⟩
  rw [hx] at CS ⊢
  clear hx
  cases b
  all_goals
    go_enter Tryz.func129, Tryz.ntmps129
    go_wp2_with (first | (go_at_call 106; with_reducible refine (CS.out _).mono ?_; rintro e w' ⟨rfl, k, rfl⟩))
    go_ret
    exact ⟨rfl, below_of_drewN _ _⟩
theorem partF_zero (a : Int) (d : Int) : partF a 0 d = 0 := by
  unfold partF Xa.scale
  split <;> split <;> simp
theorem partF_bd (a n d : Int) : 0 ≤ partF a n d ∧ partF a n d ≤ 1125899906842624 := by
  unfold partF
  rcases scale_cases a n d with h | ⟨q, r, h, _, _, _, h1, h2, _⟩
  · rw [h]; simp
  · rw [h]; simp; omega
theorem sub_fit (a b : Int) : -9223372036854775808 ≤ Xa.sub a b ∧ Xa.sub a b ≤ 9223372036854775807 := by
  unfold Xa.sub
  split
  · omega
  · split <;> omega
set_option maxHeartbeats 4000000 in
theorem ghead_is (nm : ByteArray) (c4 c5 c6 : Value) (bnum bden from' to' : Int) (d1 d2 d7 d8 d9 d10 d11 d12 d13 d14 d17 : Value) (hf : Fit from') (w : World) :
    Calls Tryz.prog 131 #[.agg #[.string nm, d1, d2, .int .i64 1, c4, c5, c6, d7, d8, d9, d10, d11, d12, d13, d14, .int .i64 bnum, .int .i64 bden, d17], .int .i64 from', .int .i64 to'] w fun e w' => e = .returned (.int .i64 (max 0 (Xa.sub from' (partF to' bnum bden)))) ∧ Below w.heap.size w w' := by
  have hb := partF_bd to' bnum bden
  have CP := Lib.hid (fun W => part_is to' bnum bden W)
  obtain ⟨p, hp⟩ : ∃ p, partF to' bnum bden = p := ⟨_, rfl⟩
  rw [hp] at CP hb ⊢
  have CS := Lib.hid (fun W => sub_any from' p hf.1 hf.2 (by omega) (by omega) W)
  obtain ⟨s, hs⟩ : ∃ s, Xa.sub from' p = s := ⟨_, rfl⟩
  rw [hs] at CS ⊢
  clear hp hs hb hf
  go_enter Tryz.func131, Tryz.ntmps131
  go_upto_region 1 with fail
  refine wp_rebase _ (fun V hV x0 => ?_)
  have HB0 := Lib.hid (show Below w.heap.size w V by rw [hV]; exact bel_alloc (Below.refl _ _) _)
  have HBB := Lib.hid (show V.rangeAt w.heap.size 0 [.string nm, d1, d2, .int .i64 1, c4, c5, c6, d7, d8, d9, d10, d11, d12, d13, d14, .int .i64 bnum, .int .i64 bden, d17] by rw [hV]; exact range_new _ _ [.string nm, d1, d2, .int .i64 1, c4, c5, c6, d7, d8, d9, d10, d11, d12, d13, d14, .int .i64 bnum, .int .i64 bden, d17])
  clear hV
  have b3 := fun z : BelW V => (show z.w.cell? ⟨w.heap.size, 3, none⟩ = some (.int .i64 1) from BelW.range HBB.out z 3 _ rfl)
  have b15 := fun z : BelW V => (show z.w.cell? ⟨w.heap.size, 15, none⟩ = some (.int .i64 bnum) from BelW.range HBB.out z 15 _ rfl)
  have b16 := fun z : BelW V => (show z.w.cell? ⟨w.heap.size, 16, none⟩ = some (.int .i64 bden) from BelW.range HBB.out z 16 _ rfl)
  have CPB := Lib.hid (fun z : BelW V => bel_of (x := z) (CP.out z.w))
  have CSB := Lib.hid (fun z : BelW V => bel_of_same (x := z) (CS.out z.w))
  go_wp2_with (first
    | (go_at_call 129; (with_reducible refine (CPB.out _).mono ?_); rintro e w1 ⟨rfl, z, rfl⟩)
    | (go_at_call 98; (with_reducible refine (CSB.out _).mono ?_); rintro e w1 ⟨rfl, z, rfl⟩))
  go_ret
  exact ⟨rfl, below_next HB0.out z.2⟩
end Go.Proofs.YtngjakahanmepaaGreatDoor
namespace Go.Proofs.YtngjakahanmepaaGreatDoor
open Go.RowKit
set_option linter.unusedVariables false
set_option linter.unusedSimpArgs false
theorem max_fit (a b : Int) : Fit (max 0 (Xa.sub a b)) := by
  have := sub_fit a b
  unfold Fit
  omega
set_option maxHeartbeats 8000000 in
set_option maxRecDepth 100000 in
theorem asks_is (nm : ByteArray) (d2 d5 d6 d10 d11 d12 d13 d14 d17 : Value) (RA : Option Addr) (rc : Nat) (rate : List Sp) (bnum bden : Int) (from' to' : Int) (hf : Fit from') (hn : rate.length ≤ 9223372036854775807) (w : World) (hr : Rd w RA (spCells rate)) :
    Calls Tryz.prog 119 #[.agg #[.string nm, .int .i64 0, d2, .int .i64 1, .slice RA rate.length rc, d5, d6, .int .i64 4, .int .i64 1, .int .i64 0, d10, d11, d12, d13, d14, .int .i64 bnum, .int .i64 bden, d17], .int .i64 0, .bool false, .slice RA rate.length rc, .int .i64 from', .int .i64 to'] w fun e w' => e = .returned (.int .i64 0) ∧ Below w.heap.size w w' := by
  have hx := max_fit from' (partF to' bnum bden)
  have CH := Lib.hid (fun W => ghead_is nm (.slice RA rate.length rc) d5 d6 bnum bden from' to' (.int .i64 0) d2 (.int .i64 4) (.int .i64 1) (.int .i64 0) d10 d11 d12 d13 d14 d17 hf W)
  obtain ⟨x, hxx⟩ : ∃ x, max 0 (Xa.sub from' (partF to' bnum bden)) = x := ⟨_, rfl⟩
  rw [hxx] at CH hx
  clear hxx
  have CA := Lib.hid (fun (W : World) (h : Rd W RA (spCells rate)) => at_any RA rc rate hn x hx.1 hx.2 W h)
  obtain ⟨v, hv⟩ : ∃ v, atF rate x = v := ⟨_, rfl⟩
  rw [hv] at CA
  clear hv hx
  have CP := Lib.hid (fun W => (show Calls Tryz.prog 129 #[.int .i64 v, .int .i64 0, .int .i64 4] W fun e w' => e = .returned (.int .i64 0) ∧ Below W.heap.size W w' from by have h := part_is v 0 4 W; rw [partF_zero] at h; exact h))
  have CS := Lib.hid (fun W => (show Calls Tryz.prog 58 #[.int .i64 0, .int .i64 0] W fun e w' => e = .returned (.int .i64 0) ∧ W = w' from add_any 0 0 (by omega) (by omega) (by omega) (by omega) W))
  go_enter Tryz.func119, Tryz.ntmps119
  go_upto_region 1 with fail
  refine wp_rebase _ (fun V hV x0 => ?_)
  have HB0 := Lib.hid (show Below w.heap.size w V by rw [hV]; exact bel_alloc (Below.refl _ _) _)
  have HBB := Lib.hid (show V.rangeAt w.heap.size 0 [.string nm, .int .i64 0, d2, .int .i64 1, .slice RA rate.length rc, d5, d6, .int .i64 4, .int .i64 1, .int .i64 0, d10, d11, d12, d13, d14, .int .i64 bnum, .int .i64 bden, d17] by rw [hV]; exact range_new _ _ [.string nm, .int .i64 0, d2, .int .i64 1, .slice RA rate.length rc, d5, d6, .int .i64 4, .int .i64 1, .int .i64 0, d10, d11, d12, d13, d14, .int .i64 bnum, .int .i64 bden, d17])
  have HRV := Lib.hid (fun z : BelW V => (show Rd z.w RA (spCells rate) from hr.below (Nat.le_refl _) (below_next HB0.out z.2)))
  clear hV hr
  have b1 := fun z : BelW V => (show z.w.cell? ⟨w.heap.size, 1, none⟩ = some (.int .i64 0) from BelW.range HBB.out z 1 _ rfl)
  have b7 := fun z : BelW V => (show z.w.cell? ⟨w.heap.size, 7, none⟩ = some (.int .i64 4) from BelW.range HBB.out z 7 _ rfl)
  have b9 := fun z : BelW V => (show z.w.cell? ⟨w.heap.size, 9, none⟩ = some (.int .i64 0) from BelW.range HBB.out z 9 _ rfl)
  have CHB := Lib.hid (fun z : BelW V => bel_of (x := z) (CH.out z.w))
  have CAB := Lib.hid (fun z : BelW V => bel_of (x := z) (CA.out z.w (HRV.out z)))
  have CPB := Lib.hid (fun z : BelW V => bel_of (x := z) (CP.out z.w))
  have CSB := Lib.hid (fun z : BelW V => bel_of_same (x := z) (CS.out z.w))
  go_upto_region 7 with fail
  refine wp_region_belx (by kernel_rfl) (by kernel_rfl) ?_
  repeat (first
    | (with_reducible refine wpQuiet_load_g 98 _ (by with_reducible rfl) _ _ (by with_unfolding_all rfl) (by with_unfolding_all rfl) _ _ (rangeX HBB.out) Tryz.underlying98 (by with_unfolding_all rfl) (by kernel_rfl) ?_; simp only [Act.put, List.setIfInBounds_toArray, List.set_cons_succ, List.set_cons_zero])
    | go_big_quiet_step ((first
      | (go_at_call 131; with_reducible exact CHB.out _)
      | (go_at_call 130; with_reducible exact CAB.out _)
      | (go_at_call 129; with_reducible exact CPB.out _)
      | (go_at_call 58; with_reducible exact CSB.out _))))
  refine wpQuiet_nil ?_
  intro y
  go_wp2_with fail
  go_ret
  exact ⟨rfl, below_next HB0.out y.2⟩
set_option maxHeartbeats 8000000 in
set_option maxRecDepth 100000 in
theorem gask_is (nm : ByteArray) (d2 d5 d6 d10 d11 d12 d13 d14 d17 : Value) (RA : Option Addr) (rc : Nat) (rate : List Sp) (bnum bden : Int) (tgt from' to' : Int) (hf : Fit from') (hn : rate.length ≤ 9223372036854775807) (w : World) (hr : Rd w RA (spCells rate)) :
    Calls Tryz.prog 103 #[.agg #[.string nm, .int .i64 0, d2, .int .i64 1, .slice RA rate.length rc, d5, d6, .int .i64 4, .int .i64 1, .int .i64 0, d10, d11, d12, d13, d14, .int .i64 bnum, .int .i64 bden, d17], .agg #[.int .i64 0, .int .i64 tgt, .bool false, .bool false], .int .i64 from', .int .i64 to'] w fun e w' => e = .returned (.int .i64 0) ∧ Below w.heap.size w w' := by
  go_enter Tryz.func103, Tryz.ntmps103
  go_upto_region 1 with fail
  refine wp_rebase _ (fun V hV x0 => ?_)
  have HB0 := Lib.hid (show Below w.heap.size w V by rw [hV]; exact bel_alloc (bel_alloc (Below.refl _ _) _) _)
  have HBB := Lib.hid (show V.rangeAt w.heap.size 0 [.string nm, .int .i64 0, d2, .int .i64 1, .slice RA rate.length rc, d5, d6, .int .i64 4, .int .i64 1, .int .i64 0, d10, d11, d12, d13, d14, .int .i64 bnum, .int .i64 bden, d17] by rw [hV]; exact range_bel (range_new w 98 [.string nm, .int .i64 0, d2, .int .i64 1, .slice RA rate.length rc, d5, d6, .int .i64 4, .int .i64 1, .int .i64 0, d10, d11, d12, d13, d14, .int .i64 bnum, .int .i64 bden, d17]) ⟨_, bel_alloc (Below.refl _ _) _⟩)
  have HBG := Lib.hid (show V.rangeAt (w.heap.size + 1) 0 [.int .i64 0, .int .i64 tgt, .bool false, .bool false] by
    rw [hV]
    have h := range_new (w.alloc (.cells [.string nm, .int .i64 0, d2, .int .i64 1, .slice RA rate.length rc, d5, d6, .int .i64 4, .int .i64 1, .int .i64 0, d10, d11, d12, d13, d14, .int .i64 bnum, .int .i64 bden, d17].toArray 98)) 115 [.int .i64 0, .int .i64 tgt, .bool false, .bool false]
    rw [World.size_alloc] at h
    exact h)
  have HRV := Lib.hid (fun z : BelW V => (show Rd z.w RA (spCells rate) from hr.below (Nat.le_refl _) (below_next HB0.out z.2)))
  clear hV hr
  have b4 := fun z : BelW V => (show z.w.cell? ⟨w.heap.size, 4, none⟩ = some (.slice RA rate.length rc) from BelW.range HBB.out z 4 _ rfl)
  have g0 := fun z : BelW V => (show z.w.cell? ⟨w.heap.size + 1, 0, none⟩ = some (.int .i64 0) from BelW.range HBG.out z 0 _ rfl)
  have g3 := fun z : BelW V => (show z.w.cell? ⟨w.heap.size + 1, 3, none⟩ = some (.bool false) from BelW.range HBG.out z 3 _ rfl)
  have CA := Lib.hid (fun z : BelW V => bel_of (x := z) (asks_is nm d2 d5 d6 d10 d11 d12 d13 d14 d17 RA rc rate bnum bden from' to' hf hn z.w (HRV.out z)))
  go_wp2_with (first
    | (with_reducible refine wpList_load_g 98 _ (by with_reducible rfl) _ _ (by with_unfolding_all rfl) (by with_unfolding_all rfl) _ _ (BelW.range HBB.out _) Tryz.underlying98 (by with_unfolding_all rfl) (by kernel_rfl) ?_)
    | (go_at_call 119; (with_reducible refine (CA.out _).mono ?_); rintro e w1 ⟨rfl, z, rfl⟩))
  go_ret
  exact ⟨rfl, below_next HB0.out z.2⟩
end Go.Proofs.YtngjakahanmepaaGreatDoor
namespace Go.Proofs.YtngjakahanmepaaGreatDoor
open Go.RowKit
set_option linter.unusedVariables false
set_option linter.unusedSimpArgs false
/-- boxes that the call made, each with its cells -/
structure Mem (w : World) (m : List (Nat × List Value)) : Prop where
  box : ∀ p ∈ m, Bo w p.1 p.2
  nd : (m.map Prod.fst).Nodup
theorem Mem.nil (w : World) : Mem w [] := ⟨(fun _ h => by cases h), List.nodup_nil⟩
theorem Mem.get {w : World} {m : List (Nat × List Value)} (h : Mem w m) (i : Nat) {b : Nat} {cs : List Value} (hi : m[i]? = some (b, cs)) : Bo w b cs := h.box _ (List.mem_of_getElem? hi)
theorem Mem.next {w w' : World} {m : List (Nat × List Value)} (h : Mem w m) (hb : Below w.heap.size w w') : Mem w' m := ⟨fun p hp => (h.box p hp).next hb, h.nd⟩
theorem Mem.bel {w : World} {m : List (Nat × List Value)} (h : Mem w m) (y : BelW w) : Mem y.w m := h.next y.2
theorem Mem.add {w w' : World} {m : List (Nat × List Value)} (h : Mem w m) (hb : Below w.heap.size w w') {b : Nat} {cs : List Value} (hx : Bo w' b cs) (hge : w.heap.size ≤ b) : Mem w' ((b, cs) :: m) := by
  refine ⟨fun p hp => ?_, ?_⟩
  · rcases List.mem_cons.1 hp with rfl | hp
    · exact hx
    · exact (h.box p hp).next hb
  · rw [List.map_cons, List.nodup_cons]
    refine ⟨fun hm => ?_, h.nd⟩
    obtain ⟨p, hp, e⟩ := List.mem_map.1 hm
    have := (h.box p hp).lt
    omega
theorem Mem.new {w : World} {m : List (Nat × List Value)} (h : Mem w m) (t : TypeId) (cs : List Value) : Mem (w.alloc (.cells cs.toArray t)) ((w.heap.size, cs) :: m) :=
  h.add (bel_alloc (Below.refl _ _) _) (Bo.new w t cs) (Nat.le_refl _)
theorem Mem.ne {w : World} {m : List (Nat × List Value)} (h : Mem w m) {i j : Nat} {b c : Nat} {cs ds : List Value} (hi : m[i]? = some (b, cs)) (hj : m[j]? = some (c, ds)) (hne : i ≠ j) : b ≠ c := fun e => by
  subst e
  have h1 : (m.map Prod.fst)[i]? = some b := by rw [List.getElem?_map, hi]; rfl
  have h2 : (m.map Prod.fst)[j]? = some b := by rw [List.getElem?_map, hj]; rfl
  obtain ⟨hi', e1⟩ := List.getElem?_eq_some_iff.1 h1
  obtain ⟨hj', e2⟩ := List.getElem?_eq_some_iff.1 h2
  exact hne ((List.getElem_inj h.nd).1 (e1.trans e2.symm))
theorem mem_set {m : List (Nat × List Value)} {i : Nat} {x p : Nat × List Value} (hp : p ∈ m.set i x) : p = x ∨ ∃ j, j ≠ i ∧ m[j]? = some p := by
  obtain ⟨j, hj, rfl⟩ := List.mem_iff_getElem.1 hp
  by_cases e : j = i
  · subst e
    left; rw [List.getElem_set_self]
  · right
    refine ⟨j, e, ?_⟩
    rw [List.getElem_set_ne (Ne.symm e)]
    exact List.getElem?_eq_getElem _
theorem set_nd {m : List (Nat × List Value)} {i : Nat} {b : Nat} {cs ds : List Value} (hi : m[i]? = some (b, cs)) (h : (m.map Prod.fst).Nodup) : ((m.set i (b, ds)).map Prod.fst).Nodup := by
  have e : (m.set i (b, ds)).map Prod.fst = m.map Prod.fst := by
    rw [List.map_set]
    refine List.ext_getElem? fun k => ?_
    by_cases e : i = k
    · subst e
      rw [List.getElem?_set_self (by rw [List.length_map]; exact (List.getElem?_eq_some_iff.1 hi).1), List.getElem?_map, hi]
      rfl
    · rw [List.getElem?_set_ne e]
  rw [e]; exact h
theorem Mem.put {w : World} {m : List (Nat × List Value)} (h : Mem w m) (i : Nat) {b : Nat} {cs : List Value} (hi : m[i]? = some (b, cs)) {j : Nat} (hj : j < cs.length) (v : Value) : Mem (w.setCell ⟨b, j, none⟩ v) (m.set i (b, cs.set j v)) :=
  ⟨fun p hp => by
    rcases mem_set hp with rfl | ⟨k, hk, hp⟩
    · exact (h.get i hi).put hj v
    · exact (h.box p (List.mem_of_getElem? hp)).far (h.ne hi (show m[k]? = some (p.1, p.2) from hp) (Ne.symm hk)) j v, set_nd hi h.nd⟩
theorem Mem.fill {w : World} {m : List (Nat × List Value)} (h : Mem w m) (i : Nat) {b : Nat} {cs : List Value} (hi : m[i]? = some (b, cs)) (vs : List Value) (hl : vs.length = cs.length) : Mem (w.setCells b 0 vs) (m.set i (b, vs)) :=
  ⟨fun p hp => by
    rcases mem_set hp with rfl | ⟨k, hk, hp⟩
    · exact (h.get i hi).set vs hl
    · exact (h.box p (List.mem_of_getElem? hp)).other (h.ne (show m[k]? = some (p.1, p.2) from hp) hi hk) 0 vs, set_nd hi h.nd⟩
theorem Mem.sub {w : World} {m m' : List (Nat × List Value)} (h : Mem w m) (hs : m'.Sublist m) : Mem w m' := ⟨fun p hp => h.box p (hs.mem hp), (hs.map Prod.fst).nodup h.nd⟩
theorem Mem.perm {w : World} {m m' : List (Nat × List Value)} (h : Mem w m) (hs : m'.Perm m) : Mem w m' := ⟨fun p hp => h.box p (hs.mem_iff.1 hp), (hs.map Prod.fst).nodup_iff.2 h.nd⟩
theorem Bo.cell {W : World} {b : Nat} {cs : List Value} (h : Bo W b cs) (j : Nat) {v : Value} (hj : cs[j]? = some v) : W.cell? ⟨b, j, none⟩ = some v := by
  have := h.rng j v hj
  rwa [Nat.zero_add] at this
set_option maxHeartbeats 8000000 in
set_option maxRecDepth 100000 in
theorem gmove_is (nm : ByteArray) (d2 d5 d6 d10 d11 d12 d13 d14 d17 : Value) (RA : Option Addr) (rc : Nat) (rate : List Sp) (bnum bden : Int) (w : World) :
    Calls Tryz.prog 63 #[.agg #[.string nm, .int .i64 0, d2, .int .i64 1, .slice RA rate.length rc, d5, d6, .int .i64 4, .int .i64 1, .int .i64 0, d10, d11, d12, d13, d14, .int .i64 bnum, .int .i64 bden, d17], .agg #[.int .i64 0, .int .i64 0, .bool false, .bool false]] w fun e w' => e = .returned (.agg #[.int .i64 0, .int .i64 0, .bool false, .bool false]) ∧ Below w.heap.size w w' := by
  have C0 := Lib.hid (fun W => (show Calls Tryz.prog 98 #[.int .i64 0, .int .i64 0] W fun e w' => e = .returned (.int .i64 0) ∧ W = w' from sub_any 0 0 (by omega) (by omega) (by omega) (by omega) W))
  have C1 := Lib.hid (fun W => (show Calls Tryz.prog 98 #[.int .i64 0, .int .i64 1] W fun e w' => e = .returned (.int .i64 (-1)) ∧ W = w' from sub_any 0 1 (by omega) (by omega) (by omega) (by omega) W))
  have C2 := Lib.hid (fun W => (show Calls Tryz.prog 97 #[.int .i64 0, .int .i64 (-1), .int .i64 1] W fun e w' => e = .returned (.int .i64 0) ∧ W = w' from clamp_any 0 (-1) 1 W))
  have C3 := Lib.hid (fun W => (show Calls Tryz.prog 58 #[.int .i64 0, .int .i64 0] W fun e w' => e = .returned (.int .i64 0) ∧ W = w' from add_any 0 0 (by omega) (by omega) (by omega) (by omega) W))
  go_enter Tryz.func63, Tryz.ntmps63
  go_upto_region 1 with fail
  refine wp_rebase _ (fun V hV x0 => ?_)
  have HM := Lib.hid (show Below w.heap.size w V ∧ Mem V [(w.heap.size + 1 + 1, [.int .i64 0, .int .i64 0, .bool false, .bool false]), (w.heap.size + 1, [.int .i64 0, .int .i64 0, .bool false, .bool false]), (w.heap.size, [.string nm, .int .i64 0, d2, .int .i64 1, .slice RA rate.length rc, d5, d6, .int .i64 4, .int .i64 1, .int .i64 0, d10, d11, d12, d13, d14, .int .i64 bnum, .int .i64 bden, d17])] by
    rw [hV]
    refine ⟨bel_alloc (bel_alloc (bel_alloc (Below.refl _ _) _) _) _, ?_⟩
    have h := (((Mem.nil w).new 98 [.string nm, .int .i64 0, d2, .int .i64 1, .slice RA rate.length rc, d5, d6, .int .i64 4, .int .i64 1, .int .i64 0, d10, d11, d12, d13, d14, .int .i64 bnum, .int .i64 bden, d17]).new 115 [.int .i64 0, .int .i64 0, .bool false, .bool false]).new 115 [.int .i64 0, .int .i64 0, .bool false, .bool false]
    simp only [World.size_alloc] at h
    exact h)
  clear hV
  have b8 := fun z : BelW V => (show z.w.cell? ⟨w.heap.size, 8, none⟩ = some (.int .i64 1) from ((HM.out.2.bel z).get 2 rfl).cell 8 rfl)
  have g0 := fun z : BelW V => (show z.w.cell? ⟨w.heap.size + 1, 0, none⟩ = some (.int .i64 0) from ((HM.out.2.bel z).get 1 rfl).cell 0 rfl)
  have g1 := fun z : BelW V => (show z.w.cell? ⟨w.heap.size + 1, 1, none⟩ = some (.int .i64 0) from ((HM.out.2.bel z).get 1 rfl).cell 1 rfl)
  have g2 := fun z : BelW V => (show z.w.cell? ⟨w.heap.size + 1, 2, none⟩ = some (.bool false) from ((HM.out.2.bel z).get 1 rfl).cell 2 rfl)
  have C0B := Lib.hid (fun z : BelW V => bel_of_same (x := z) (C0.out z.w))
  have C1B := Lib.hid (fun z : BelW V => bel_of_same (x := z) (C1.out z.w))
  have C2B := Lib.hid (fun z : BelW V => bel_of_same (x := z) (C2.out z.w))
  go_upto_region 3 with fail
  refine wp_region_belx (by kernel_rfl) (by kernel_rfl) ?_
  repeat (go_big_quiet_step ((first
      | (go_at_call 98; with_reducible exact C0B.out _)
      | (go_at_call 98; with_reducible exact C1B.out _)
      | (go_at_call 97; with_reducible exact C2B.out _))))
  refine wpQuiet_nil ?_
  intro y
  have f0 : y.w.frozen? ⟨w.heap.size + 1, 0, none⟩ = false := ((HM.out.2.bel y).get 1 rfl).fz 0
  have C3Y := Lib.hid (C3.out y.w)
  go_upto_region 5 with (first | (go_at_call 58; (with_reducible refine C3Y.out.mono ?_); rintro e w1 ⟨rfl, rfl⟩))
  refine wp_named _ (fun U hU => ?_)
  have HU := Lib.hid (show Below w.heap.size w U ∧ Mem U [(w.heap.size + 1 + 1, [.int .i64 0, .int .i64 0, .bool false, .bool false]), (w.heap.size + 1, [.int .i64 0, .int .i64 0, .bool false, .bool false]), (w.heap.size, [.string nm, .int .i64 0, d2, .int .i64 1, .slice RA rate.length rc, d5, d6, .int .i64 4, .int .i64 1, .int .i64 0, d10, d11, d12, d13, d14, .int .i64 bnum, .int .i64 bden, d17])] by
    rw [hU]
    exact ⟨(below_next HM.out.1 y.2).setCell (by show w.heap.size ≤ w.heap.size + 1; omega) _, (HM.out.2.bel y).put 1 rfl (j := 0) (by simp) (.int .i64 0)⟩)
  clear hU b8 g0 g1 g2 f0
  go_wp2_with (first
    | (with_reducible refine wpList_load_g 115 _ (by with_reducible rfl) _ _ (by with_unfolding_all rfl) (by with_unfolding_all rfl) _ _ (HU.out.2.get 1 rfl).rng Tryz.underlying115 (by with_unfolding_all rfl) (by kernel_rfl) ?_)
    | (with_reducible refine wpList_store_named rfl 115 _ _ (by with_reducible rfl) (w.heap.size + 1 + 1) 0 #[.int .i64 0, .int .i64 0, .bool false, .bool false] (by with_unfolding_all rfl) (by with_unfolding_all rfl) (by with_unfolding_all exact (HU.out.2.get 0 rfl).there) (by kernel_rfl) (by with_unfolding_all rfl) ?_))
  intro W4 hW4h
  have HW4 := Lib.hid (show Below w.heap.size w W4 ∧ Bo W4 (w.heap.size + 1 + 1) [.int .i64 0, .int .i64 0, .bool false, .bool false] by
    rw [hW4h.out]
    exact ⟨below_setCellsX (by omega) _ 0 HU.out.1, (HU.out.2.get 0 rfl).set [.int .i64 0, .int .i64 0, .bool false, .bool false] rfl⟩)
  clear hW4h
  have c0 := HW4.out.2.cell 0 rfl
  have c1 := HW4.out.2.cell 1 rfl
  have c2 := HW4.out.2.cell 2 rfl
  have c3 := HW4.out.2.cell 3 rfl
  go_wp2_with fail
  refine bodyPost_ret (v := .agg #[.int .i64 0, .int .i64 0, .bool false, .bool false]) ?_ rfl ⟨rfl, HW4.out.1⟩
  simp [results, Tryz.results63, go_sem, c0, c1, c2, c3]
end Go.Proofs.YtngjakahanmepaaGreatDoor
namespace Go.Proofs.YtngjakahanmepaaGreatDoor
open Go.RowKit
set_option linter.unusedVariables false
set_option linter.unusedSimpArgs false
theorem Bo.grown {w w' : World} {b : Nat} {cs : List Value} (h : Bo w b cs) {r : Option Nat} (hg : w.grownBy w' r) (hne : some b ≠ r) : Bo w' b cs := by
  have e := hg.block b h.lt hne
  refine ⟨range_grown h.rng h.lt hg hne, fun o => ?_, Nat.lt_of_lt_of_le h.lt hg.size⟩
  have := h.fz o
  unfold World.frozen? at this ⊢
  rw [e]; exact this
theorem Mem.grown {w w' : World} {m : List (Nat × List Value)} (h : Mem w m) {r : Option Nat} (hg : w.grownBy w' r) (hne : ∀ p ∈ m, some p.1 ≠ r) : Mem w' m := ⟨fun p hp => (h.box p hp).grown hg (hne p hp), h.nd⟩
theorem Bo.rd {w : World} {b : Nat} {cs : List Value} (h : Bo w b cs) : Rd w (some ⟨b, 0, none⟩) cs := fun _ => ⟨_, rfl, h.lt, fun j u hu => by
  rw [add_row]
  exact h.cell j hu⟩
theorem own_built (w : World) {B : Nat} (hB : B ≤ w.heap.size) (e : TypeId) (size n : Nat) (cs : List Value) (hl : cs.length = n * size) (hn : n ≤ maxLen) : (w.alloc (.cells cs.toArray e)).ownsRow B e size (.slice (some ⟨w.heap.size, 0, none⟩) n n) n cs :=
  ⟨hl, .inr ⟨w.heap.size, n, cs.toArray, rfl, hB, heap_alloc_new w _, Nat.le_refl _, hn, by simpa using hl, by simp [← hl]⟩⟩
/-- boxes, and beside them a row -/
structure MemR (w : World) (B : Nat) (e : TypeId) (size : Nat) (v : Value) (n : Nat) (xs : List Value) (m : List (Nat × List Value)) : Prop where
  mem : Mem w m
  own : w.ownsRow B e size v n xs
  out : ∀ g, v.ownBlock = some g → ∀ p ∈ m, p.1 ≠ g
theorem MemR.next {w w' : World} {B : Nat} {e : TypeId} {size : Nat} {v : Value} {n : Nat} {xs : List Value} {m : List (Nat × List Value)} (h : MemR w B e size v n xs m) (hb : Below w.heap.size w w') : MemR w' B e size v n xs m :=
  ⟨h.mem.next hb, own_below h.own hb, h.out⟩
theorem MemR.new {w : World} {B : Nat} {e : TypeId} {size : Nat} {v : Value} {n : Nat} {xs : List Value} {m : List (Nat × List Value)} (h : MemR w B e size v n xs m) (t : TypeId) (cs : List Value) : MemR (w.alloc (.cells cs.toArray t)) B e size v n xs ((w.heap.size, cs) :: m) :=
  ⟨h.mem.new t cs, own_below h.own (bel_alloc (Below.refl _ _) _), fun g hg p hp => by
    rcases List.mem_cons.1 hp with rfl | hp
    · have := (World.ownsRow.lt h.own g hg).2
      show w.heap.size ≠ g
      omega
    · exact h.out g hg p hp⟩
theorem MemR.add {w w' : World} {B : Nat} {e : TypeId} {size : Nat} {v : Value} {n : Nat} {xs : List Value} {m : List (Nat × List Value)} (h : MemR w B e size v n xs m) (hb : Below w.heap.size w w') {b : Nat} {cs : List Value} (hx : Bo w' b cs) (hge : w.heap.size ≤ b) : MemR w' B e size v n xs ((b, cs) :: m) :=
  ⟨h.mem.add hb hx hge, own_below h.own hb, fun g hg p hp => by
    rcases List.mem_cons.1 hp with rfl | hp
    · have := (World.ownsRow.lt h.own g hg).2
      show b ≠ g
      omega
    · exact h.out g hg p hp⟩
theorem MemR.put {w : World} {B : Nat} {e : TypeId} {size : Nat} {v : Value} {n : Nat} {xs : List Value} {m : List (Nat × List Value)} (h : MemR w B e size v n xs m) (i : Nat) {b : Nat} {cs : List Value} (hi : m[i]? = some (b, cs)) {j : Nat} (hj : j < cs.length) (u : Value) :
    MemR (w.setCell ⟨b, j, none⟩ u) B e size v n xs (m.set i (b, cs.set j u)) :=
  ⟨h.mem.put i hi hj u, ownsRow_setCell_other h.own (fun e => h.out b e _ (List.mem_of_getElem? hi) rfl) u, fun g hg p hp => by
    rcases mem_set hp with rfl | ⟨k, _, hp⟩
    · exact h.out g hg (b, cs) (List.mem_of_getElem? hi)
    · exact h.out g hg p (List.mem_of_getElem? hp)⟩
theorem MemR.appended {w w' : World} {B : Nat} {e : TypeId} {size : Nat} {v v' : Value} {n n' : Nat} {xs ys : List Value} {m : List (Nat × List Value)} (h : MemR w B e size v n xs m) (ho : w'.ownsRow B e size v' n' ys) (hg : w.grownBy w' v.ownBlock)
    (hat : v'.ownBlock = v.ownBlock ∨ v'.ownBlock = some w.heap.size) : MemR w' B e size v' n' ys m :=
  ⟨h.mem.grown hg (fun p hp e => h.out p.1 e.symm p hp rfl), ho, fun g hg' p hp => by
    rcases hat with e | e
    · exact h.out g (e ▸ hg') p hp
    · rw [hg'] at e
      cases e
      have := (h.mem.box p hp).lt
      omega⟩
theorem MemR.sub {w : World} {B : Nat} {e : TypeId} {size : Nat} {v : Value} {n : Nat} {xs : List Value} {m m' : List (Nat × List Value)} (h : MemR w B e size v n xs m) (hs : m'.Sublist m) : MemR w B e size v n xs m' := ⟨h.mem.sub hs, h.own, fun g hg p hp => h.out g hg p (hs.mem hp)⟩
theorem MemR.start {w : World} {m : List (Nat × List Value)} (h : Mem w m) {B : Nat} (hB : B ≤ w.heap.size) (e : TypeId) (size n : Nat) (cs : List Value) (hl : cs.length = n * size) (hn : n ≤ maxLen) :
    MemR (w.alloc (.cells cs.toArray e)) B e size (.slice (some ⟨w.heap.size, 0, none⟩) n n) n cs m :=
  ⟨h.next (bel_alloc (Below.refl _ _) _), own_built w hB e size n cs hl hn, fun g hg p hp => by
    have e1 : w.heap.size = g := Option.some.inj hg
    have := (h.box p hp).lt
    omega⟩
theorem MemR.none {w : World} {m : List (Nat × List Value)} (h : Mem w m) (B : Nat) (e : TypeId) (size : Nat) : MemR w B e size (.slice none 0 0) 0 [] m :=
  ⟨h, World.ownsRow_nil _ _ _ _, fun g hg => by cases hg⟩
/-! with the world in which the call began -/
structure MB (w0 W : World) (m : List (Nat × List Value)) : Prop where
  bel : Below w0.heap.size w0 W
  mem : Mem W m
  ge : ∀ p ∈ m, w0.heap.size ≤ p.1
structure MBR (w0 W : World) (e : TypeId) (size : Nat) (v : Value) (n : Nat) (xs : List Value) (m : List (Nat × List Value)) : Prop where
  bel : Below w0.heap.size w0 W
  row : MemR W w0.heap.size e size v n xs m
  ge : ∀ p ∈ m, w0.heap.size ≤ p.1
theorem MB.nil (w : World) : MB w w [] := ⟨Below.refl _ _, Mem.nil w, (fun _ h => by cases h)⟩
theorem MB.next {w0 w w' : World} {m : List (Nat × List Value)} (h : MB w0 w m) (hb : Below w.heap.size w w') : MB w0 w' m := ⟨below_next h.bel hb, h.mem.next hb, h.ge⟩
theorem ge_cons {B b : Nat} {cs : List Value} {m : List (Nat × List Value)} (h : ∀ p ∈ m, B ≤ p.1) (hb : B ≤ b) : ∀ p ∈ (b, cs) :: m, B ≤ p.1 := fun p hp => by
  rcases List.mem_cons.1 hp with rfl | hp
  · exact hb
  · exact h p hp
theorem ge_set {B b : Nat} {cs ds : List Value} {m : List (Nat × List Value)} {i : Nat} (hi : m[i]? = some (b, cs)) (h : ∀ p ∈ m, B ≤ p.1) : ∀ p ∈ m.set i (b, ds), B ≤ p.1 := fun p hp => by
  rcases mem_set hp with rfl | ⟨k, _, hp⟩
  · exact h (b, cs) (List.mem_of_getElem? hi)
  · exact h p (List.mem_of_getElem? hp)
theorem MB.new {w0 w : World} {m : List (Nat × List Value)} (h : MB w0 w m) (t : TypeId) (cs : List Value) : MB w0 (w.alloc (.cells cs.toArray t)) ((w.heap.size, cs) :: m) :=
  ⟨bel_alloc h.bel _, h.mem.new t cs, ge_cons h.ge h.bel.size⟩
theorem MB.newAt {w0 w : World} {m : List (Nat × List Value)} (h : MB w0 w m) {n : Nat} (hn : w.heap.size = n) (t : TypeId) (cs : List Value) : MB w0 (w.alloc (.cells cs.toArray t)) ((n, cs) :: m) := hn ▸ h.new t cs
theorem MB.add {w0 w w' : World} {m : List (Nat × List Value)} (h : MB w0 w m) (hb : Below w.heap.size w w') {b : Nat} {cs : List Value} (hx : Bo w' b cs) (hge : w.heap.size ≤ b) : MB w0 w' ((b, cs) :: m) :=
  ⟨below_next h.bel hb, h.mem.add hb hx hge, ge_cons h.ge (Nat.le_trans h.bel.size hge)⟩
theorem MB.put {w0 w : World} {m : List (Nat × List Value)} (h : MB w0 w m) (i : Nat) {b : Nat} {cs : List Value} (hi : m[i]? = some (b, cs)) {j : Nat} (hj : j < cs.length) (v : Value) : MB w0 (w.setCell ⟨b, j, none⟩ v) (m.set i (b, cs.set j v)) :=
  ⟨h.bel.setCell (h.ge (b, cs) (List.mem_of_getElem? hi)) _, h.mem.put i hi hj v, ge_set hi h.ge⟩
theorem MB.fill {w0 w : World} {m : List (Nat × List Value)} (h : MB w0 w m) (i : Nat) {b : Nat} {cs : List Value} (hi : m[i]? = some (b, cs)) (vs : List Value) (hl : vs.length = cs.length) : MB w0 (w.setCells b 0 vs) (m.set i (b, vs)) :=
  ⟨below_setCellsX (h.ge (b, cs) (List.mem_of_getElem? hi)) _ 0 h.bel, h.mem.fill i hi vs hl, ge_set hi h.ge⟩
theorem MB.sub {w0 w : World} {m m' : List (Nat × List Value)} (h : MB w0 w m) (hs : m'.Sublist m) : MB w0 w m' := ⟨h.bel, h.mem.sub hs, fun p hp => h.ge p (hs.mem hp)⟩
theorem MB.get {w0 w : World} {m : List (Nat × List Value)} (h : MB w0 w m) (i : Nat) {b : Nat} {cs : List Value} (hi : m[i]? = some (b, cs)) : Bo w b cs := h.mem.get i hi
theorem MB.box {w0 w w' : World} {m : List (Nat × List Value)} (h : MB w0 w m) (i : Nat) {b : Nat} {cs : List Value} (hi : m[i]? = some (b, cs)) (hb : Below w.heap.size w w') : Bo w' b cs := (h.mem.get i hi).next hb
theorem MB.start {w0 w : World} {m : List (Nat × List Value)} (h : MB w0 w m) {g : Nat} (hg : w.heap.size = g) (e : TypeId) (size n : Nat) (cs : List Value) (hl : cs.length = n * size) (hn : n ≤ maxLen) :
    MBR w0 (w.alloc (.cells cs.toArray e)) e size (.slice (some ⟨g, 0, none⟩) n n) n cs m := hg ▸ ⟨bel_alloc h.bel _, MemR.start h.mem h.bel.size e size n cs hl hn, h.ge⟩
theorem MB.row {w0 w : World} {m : List (Nat × List Value)} (h : MB w0 w m) (e : TypeId) (size : Nat) : MBR w0 w e size (.slice none 0 0) 0 [] m := ⟨h.bel, MemR.none h.mem _ _ _, h.ge⟩
section
variable {w0 w w' : World} {e : TypeId} {size : Nat} {v : Value} {n : Nat} {xs : List Value} {m : List (Nat × List Value)}
theorem MBR.mb (h : MBR w0 w e size v n xs m) : MB w0 w m := ⟨h.bel, h.row.mem, h.ge⟩
theorem MBR.next (h : MBR w0 w e size v n xs m) (hb : Below w.heap.size w w') : MBR w0 w' e size v n xs m := ⟨below_next h.bel hb, h.row.next hb, h.ge⟩
theorem MBR.new (h : MBR w0 w e size v n xs m) (t : TypeId) (cs : List Value) : MBR w0 (w.alloc (.cells cs.toArray t)) e size v n xs ((w.heap.size, cs) :: m) := ⟨bel_alloc h.bel _, h.row.new t cs, ge_cons h.ge h.bel.size⟩
theorem MBR.newAt (h : MBR w0 w e size v n xs m) {g : Nat} (hg : w.heap.size = g) (t : TypeId) (cs : List Value) : MBR w0 (w.alloc (.cells cs.toArray t)) e size v n xs ((g, cs) :: m) := hg ▸ h.new t cs
theorem MBR.add (h : MBR w0 w e size v n xs m) (hb : Below w.heap.size w w') {b : Nat} {cs : List Value} (hx : Bo w' b cs) (hge : w.heap.size ≤ b) : MBR w0 w' e size v n xs ((b, cs) :: m) :=
  ⟨below_next h.bel hb, h.row.add hb hx hge, ge_cons h.ge (Nat.le_trans h.bel.size hge)⟩
theorem MBR.put (h : MBR w0 w e size v n xs m) (i : Nat) {b : Nat} {cs : List Value} (hi : m[i]? = some (b, cs)) {j : Nat} (hj : j < cs.length) (u : Value) : MBR w0 (w.setCell ⟨b, j, none⟩ u) e size v n xs (m.set i (b, cs.set j u)) :=
  ⟨h.bel.setCell (h.ge (b, cs) (List.mem_of_getElem? hi)) _, h.row.put i hi hj u, ge_set hi h.ge⟩
theorem MBR.appended {v' : Value} {n' : Nat} {ys : List Value} (h : MBR w0 w e size v n xs m) (ho : w'.ownsRow w0.heap.size e size v' n' ys) (hg : w.grownBy w' v.ownBlock) (hat : v'.ownBlock = v.ownBlock ∨ v'.ownBlock = some w.heap.size) : MBR w0 w' e size v' n' ys m :=
  ⟨below_grown h.bel hg (fun k hk => (own_ge h.row.own hk).1), h.row.appended ho hg hat, h.ge⟩
theorem MBR.sub {m' : List (Nat × List Value)} (h : MBR w0 w e size v n xs m) (hs : m'.Sublist m) : MBR w0 w e size v n xs m' := ⟨h.bel, h.row.sub hs, fun p hp => h.ge p (hs.mem hp)⟩
theorem MBR.box (h : MBR w0 w e size v n xs m) (i : Nat) {b : Nat} {cs : List Value} (hi : m[i]? = some (b, cs)) (hb : Below w.heap.size w w') : Bo w' b cs := (h.row.mem.get i hi).next hb
theorem MBR.own (h : MBR w0 w e size v n xs m) (hb : Below w.heap.size w w') : w'.ownsRow w0.heap.size e size v n xs := own_below h.row.own hb
end
theorem own_setCells {B : Nat} {e : TypeId} {size n b : Nat} {v : Value} {xs : List Value} (hne : v.ownBlock ≠ some b) : ∀ (vs : List Value) (o : Nat) {w : World}, w.ownsRow B e size v n xs → (w.setCells b o vs).ownsRow B e size v n xs
  | [], _, _, h => h
  | u :: vs, o, w, h => by
    rw [World.setCells]
    exact own_setCells hne vs (o + 1) (ownsRow_setCell_other h (by exact hne) u)
theorem MBR.fill {w0 w : World} {e : TypeId} {size : Nat} {v : Value} {n : Nat} {xs : List Value} {m : List (Nat × List Value)} (h : MBR w0 w e size v n xs m) (i : Nat) {b : Nat} {cs : List Value} (hi : m[i]? = some (b, cs)) (vs : List Value) (hl : vs.length = cs.length) :
    MBR w0 (w.setCells b 0 vs) e size v n xs (m.set i (b, vs)) :=
  ⟨below_setCellsX (h.ge (b, cs) (List.mem_of_getElem? hi)) _ 0 h.bel, ⟨h.row.mem.fill i hi vs hl, own_setCells (fun e => h.row.out b e _ (List.mem_of_getElem? hi) rfl) vs 0 h.row.own, fun g hg p hp => by
    rcases mem_set hp with rfl | ⟨k, _, hp⟩
    · exact h.row.out g hg (b, cs) (List.mem_of_getElem? hi)
    · exact h.row.out g hg p (List.mem_of_getElem? hp)⟩, ge_set hi h.ge⟩
/-- a store of one cell -/
theorem run_store_cell {P : Program} (w : World) (b o : Nat) (ty : TypeId) (v : Value) (hc : (w.cell? ⟨b, o, none⟩).isSome = true) (hf : w.frozen? ⟨b, o, none⟩ = false) (hi : (P.info? ty).map (·.size) = some 1) (h1 : v.oneCell' = true) :
    (storeVar ty ⟨b, o, none⟩ v).run P w = .ok () (w.setCell ⟨b, o, none⟩ v) := by
  have := run_storeCells_cells (P := P) b o [v] 0 w (fun j hj => by obtain rfl : j = 0 := by simpa using hj
                                                                    simpa using hc) (fun j hj => by obtain rfl : j = 0 := by simpa using hj
                                                                                                    simpa using hf) (fun x hx => by simp at hx; subst hx; exact h1)
  have hcs : v.cells = #[v] := by cases v <;> first | rfl | cases h1
  cases hq : P.info? ty with
  | none => simp [hq] at hi
  | some i =>
    have hs : i.size = 1 := by simpa [hq] using hi
    simp only [Nat.add_zero] at this
    simp [storeVar, sizeOf, typeInfo, hq, hcs, hs, this, World.setCells]
theorem wpList_store_cell {P : Program} {ops : Array Oper} {rest : List Oper} {op : Oper} {a : Act} {w : World} {Q : Exit → Act → World → Prop} (hgd : op.guard = none) (ty : TypeId) (x y : Operand) (ho : op.op = .store ty x y)
    (b o : Nat) (v : Value) (hx : a.eval x = .pointer (some ⟨b, o, none⟩)) (hy : a.eval y = v) {cs : List Value} (hB : Bo w b cs) (hlt : o < cs.length) (hi : (P.info? ty).map (·.size) = some 1) (h1 : v.oneCell' = true)
    (h : ∀ W', Hid (W' = w.setCell ⟨b, o, none⟩ v) → wpList P ops Q rest (a.put op.dst undef) W') : wpList P ops Q (op :: rest) a w :=
  wpList_plain hgd fun _ hK => by
    have hc : (w.cell? ⟨b, o, none⟩).isSome = true := by rw [hB.cell o (List.getElem?_eq_getElem hlt)]; rfl
    unfold Oper.wp execOp
    simp only [ho, hx, hy, Instr.storeAt, Instr.sureAddr, Sem.run_bind, Sem.run_pure, Result.andThen_ok, run_store_cell w b o ty v hc (hB.fz o) hi h1]
    exact hK _ _ (h _ (Lib.hid rfl))
end Go.Proofs.YtngjakahanmepaaGreatDoor
