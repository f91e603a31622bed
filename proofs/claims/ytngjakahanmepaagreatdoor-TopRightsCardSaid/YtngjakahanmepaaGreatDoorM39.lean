/- Part 39 of the proof of TopRights: Boxes: those of a callee joined; a choice of them in any order. No walk. reach.Due of no load, (*hour).arrivals at the lake. Printed by wip/tools/mkh3.py. reach.Push of one load onto no queue. -/
import Derived.Test.YtngjakahanmepaaGreatDoorM38
import Derived.Great.Walk
namespace Go.Proofs.YtngjakahanmepaaGreatDoor
open Go.RowKit
set_option linter.unusedVariables false
set_option linter.unusedSimpArgs false
theorem join_nd {m m' : List (Nat × List Value)} {n : Nat} (h : (m.map Prod.fst).Nodup) (h' : (m'.map Prod.fst).Nodup) (hl : ∀ p ∈ m, p.1 < n) (hg : ∀ p ∈ m', n ≤ p.1) : ((m' ++ m).map Prod.fst).Nodup := by
  rw [List.map_append, List.nodup_append]
  refine ⟨h', h, fun a ha b hb e => ?_⟩
  obtain ⟨p, hp, rfl⟩ := List.mem_map.1 ha
  obtain ⟨q, hq, rfl⟩ := List.mem_map.1 hb
  have := hl q hq
  have := hg p hp
  omega
theorem MBR.join {w0 w w' : World} {e : TypeId} {size : Nat} {v : Value} {n : Nat} {xs : List Value} {m m' : List (Nat × List Value)} (h : MBR w0 w e size v n xs m) (h' : MB w w' m') : MBR w0 w' e size v n xs (m' ++ m) :=
  ⟨below_next h.bel h'.bel, ⟨⟨fun p hp => by
      rcases List.mem_append.1 hp with hp | hp
      · exact h'.mem.box p hp
      · exact (h.row.mem.box p hp).next h'.bel, join_nd h.row.mem.nd h'.mem.nd (fun p hp => (h.row.mem.box p hp).lt) h'.ge⟩, own_below h.row.own h'.bel, fun g hg p hp => by
      rcases List.mem_append.1 hp with hp | hp
      · have := (World.ownsRow.lt h.row.own g hg).2
        have := h'.ge p hp
        omega
      · exact h.row.out g hg p hp⟩, fun p hp => by
      rcases List.mem_append.1 hp with hp | hp
      · exact Nat.le_trans h.bel.size (h'.ge p hp)
      · exact h.ge p hp⟩
theorem MB.join {w0 w w' : World} {m m' : List (Nat × List Value)} (h : MB w0 w m) (h' : MB w w' m') : MB w0 w' (m' ++ m) :=
  ⟨below_next h.bel h'.bel, ⟨fun p hp => by
      rcases List.mem_append.1 hp with hp | hp
      · exact h'.mem.box p hp
      · exact (h.mem.box p hp).next h'.bel, join_nd h.mem.nd h'.mem.nd (fun p hp => (h.mem.box p hp).lt) h'.ge⟩, fun p hp => by
      rcases List.mem_append.1 hp with hp | hp
      · exact Nat.le_trans h.bel.size (h'.ge p hp)
      · exact h.ge p hp⟩
/-- the boxes at the places I -/
def pickM (m : List (Nat × List Value)) : List Nat → List (Nat × List Value)
  | [] => []
  | i :: r => (match m[i]? with | some p => p :: pickM m r | none => pickM m r)
theorem pickM_mem {m : List (Nat × List Value)} : ∀ {I : List Nat} {p : Nat × List Value}, p ∈ pickM m I → ∃ i ∈ I, m[i]? = some p
  | i :: r, p, hp => by
    unfold pickM at hp
    cases hh : m[i]? with
    | none => rw [hh] at hp; obtain ⟨j, hj, e⟩ := pickM_mem hp; exact ⟨j, List.mem_cons_of_mem _ hj, e⟩
    | some q =>
      rw [hh] at hp
      rcases List.mem_cons.1 hp with rfl | hp
      · exact ⟨i, List.mem_cons_self, hh⟩
      · obtain ⟨j, hj, e⟩ := pickM_mem hp; exact ⟨j, List.mem_cons_of_mem _ hj, e⟩
theorem pickM_nd {m : List (Nat × List Value)} (h : (m.map Prod.fst).Nodup) : ∀ {I : List Nat}, I.Nodup → ((pickM m I).map Prod.fst).Nodup
  | [], _ => List.nodup_nil
  | i :: r, hI => by
    rw [List.nodup_cons] at hI
    unfold pickM
    cases hh : m[i]? with
    | none => exact pickM_nd h hI.2
    | some q =>
      show (q.1 :: (pickM m r).map Prod.fst).Nodup
      rw [List.nodup_cons]
      refine ⟨fun hm => ?_, pickM_nd h hI.2⟩
      obtain ⟨p, hp, e⟩ := List.mem_map.1 hm
      obtain ⟨j, hj, hjm⟩ := pickM_mem hp
      have h1 : (m.map Prod.fst)[i]? = some q.1 := by rw [List.getElem?_map, hh]; rfl
      have h2 : (m.map Prod.fst)[j]? = some q.1 := by rw [List.getElem?_map, hjm, ← e]; rfl
      obtain ⟨hi', e1⟩ := List.getElem?_eq_some_iff.1 h1
      obtain ⟨hj', e2⟩ := List.getElem?_eq_some_iff.1 h2
      exact hI.1 ((List.getElem_inj h).1 (e1.trans e2.symm) ▸ hj)
theorem Mem.pick {w : World} {m m' : List (Nat × List Value)} (h : Mem w m) (I : List Nat) (hI : I.Nodup) (e : pickM m I = m') : Mem w m' :=
  e ▸ ⟨fun p hp => by obtain ⟨i, _, hi⟩ := pickM_mem hp; exact h.box p (List.mem_of_getElem? hi), pickM_nd h.nd hI⟩
theorem MB.pick {w0 w : World} {m m' : List (Nat × List Value)} (h : MB w0 w m) (I : List Nat) (hI : I.Nodup) (e : pickM m I = m') : MB w0 w m' :=
  ⟨h.bel, h.mem.pick I hI e, fun p hp => by
    subst e
    obtain ⟨i, _, hi⟩ := pickM_mem hp; exact h.ge p (List.mem_of_getElem? hi)⟩
theorem MBR.pick {w0 w : World} {e : TypeId} {size : Nat} {v : Value} {n : Nat} {xs : List Value} {m m' : List (Nat × List Value)} (h : MBR w0 w e size v n xs m) (I : List Nat) (hI : I.Nodup) (e' : pickM m I = m') : MBR w0 w e size v n xs m' :=
  ⟨h.bel, ⟨h.row.mem.pick I hI e', h.row.own, fun g hg p hp => by
    subst e'
    obtain ⟨i, _, hi⟩ := pickM_mem hp; exact h.row.out g hg p (List.mem_of_getElem? hi)⟩, fun p hp => by
    subst e'
    obtain ⟨i, _, hi⟩ := pickM_mem hp; exact h.ge p (List.mem_of_getElem? hi)⟩
end Go.Proofs.YtngjakahanmepaaGreatDoor
namespace Go.Proofs.YtngjakahanmepaaGreatDoor
open Go.RowKit
set_option linter.unusedVariables false
set_option linter.unusedSimpArgs false
def AddB (n : Nat) (x : List Int) (w : World) (e : Ending) (w' : World) : Prop := ∃ g, e = .returned (.slice (some ⟨g, 0, none⟩) n n) ∧ Bo w' g (ints x) ∧ w.heap.size ≤ g ∧ Below w.heap.size w w'
theorem padd_c (b cb d cd n : Nat) (p q x : List Int) (hp : p.length = n) (hq : q.length = n) (hn : n ≤ 1000) (hfp : fitB p = true) (hfq : fitB q = true) (hx : addF n p q = x) (w : World) (hrp : Rd w (some ⟨b, 0, none⟩) (ints p)) (hrq : Rd w (some ⟨d, 0, none⟩) (ints q)) :
    Calls Tryz.prog 66 #[.slice (some ⟨b, 0, none⟩) n cb, .slice (some ⟨d, 0, none⟩) n cd] w (AddB n x w) := by
  subst hx
  refine (padd_any _ _ cb cd p q n n n hp hq (Nat.max_self n) hn (fun i hi => fitB_spec hfp i (by rw [hp]; exact hi)) (fun i hi => fitB_spec hfq i (by rw [hq]; exact hi)) w hrp hrq).mono ?_
  rintro e w' ⟨g, rfl, hI, hb⟩
  exact ⟨g, rfl, Bo.of_own hI, hI.lt.1, hb⟩
def DueB (w : World) (e : Ending) (w' : World) : Prop := ∃ ar d0 d1 d2, e = .returned (.tuple #[.slice (some ⟨ar, 0, none⟩) 3 3, .slice none 0 0]) ∧ MB w w' [(d2, ints [0, 0]), (d1, ints [0, 0]), (d0, ints [0, 0]), (ar, [rowV d0 2, rowV d1 2, rowV d2 2])]
set_option maxHeartbeats 8000000 in
set_option maxRecDepth 100000 in
theorem due_nil (w : World) : Calls Tryz.prog 65 #[.slice none 0 0, .int .i64 0, .int .i64 3, .int .i64 2] w (DueB w) := by
  obtain ⟨ir, hr0, hr1, hr2, hr3⟩ := info_parts info_rows
  obtain ⟨ii, hi0, hi1, hi2, hi3⟩ := info_parts info_int2
  have hmr : ir.bytes * 3 ≤ 281474976710656 ∧ ii.bytes * 2 ≤ 281474976710656 ∧ 3 ≤ maxLen ∧ 2 ≤ maxLen := by rw [hr3, hi3]; unfold maxLen; omega
  have INF := Lib.hid (And.intro hr0 (And.intro hr1 (And.intro hr2 hmr)))
  have INI := Lib.hid (And.intro hi0 (And.intro hi1 (And.intro hi2 hmr)))
  clear hr0 hr1 hr2 hr3 hi0 hi1 hi2 hi3 hmr
  have C1 := Lib.hid (fun W => (show Calls Tryz.prog 97 #[.int .i64 3, .int .i64 0, .int .i64 64] W fun e w' => e = .returned (.int .i64 3) ∧ W = w' from clamp_any 3 0 64 W))
  have C2 := Lib.hid (fun W => (show Calls Tryz.prog 97 #[.int .i64 2, .int .i64 0, .int .i64 16] W fun e w' => e = .returned (.int .i64 2) ∧ W = w' from clamp_any 2 0 16 W))
  have HM0 := Lib.hid (MB.nil w)
  go_enter Tryz.func65, Tryz.ntmps65
  go_wp2_with (first
    | (go_at_call 97; (with_reducible refine (C1.out _).mono ?_); rintro e w1 ⟨rfl, rfl⟩)
    | (go_at_call 97; (with_reducible refine (C2.out _).mono ?_); rintro e w1 ⟨rfl, rfl⟩)
    | (at_make; refine wpList_make_full _ rfl _ _ 51 rfl w.heap.size 29 ir (.slice none 0 0) 1 Tryz.underlying51 INF.out.1 INF.out.2.1 INF.out.2.2.1 _ _ _ _ 3 (by rfl) (by rfl) (by rfl) (by rfl) INF.out.2.2.2.1 INF.out.2.2.2.2.2.1 (Nat.le_refl _) ?_))
  intro W1 hown hgr
  obtain ⟨ar, har⟩ : ∃ n, w.heap.size = n := ⟨_, rfl⟩
  have hown' : W1.ownsRow w.heap.size 29 1 (.slice (some ⟨ar, 0, none⟩) 3 3) 3 [.slice none 0 0, .slice none 0 0, .slice none 0 0] := by
    have hmc : (madeCells #[Value.slice none 0 0] 3).toList = [.slice none 0 0, .slice none 0 0, .slice none 0 0] := by kernel_rfl
    rw [hmc] at hown
    rw [← har]
    exact hown
  have HM1 := Lib.hid (show MB w W1 [(ar, [.slice none 0 0, .slice none 0 0, .slice none 0 0])] by
    exact HM0.out.add (below_grown (Below.refl _ _) hgr (fun k hk => by cases hk)) (Bo.of_own hown') (Nat.le_of_eq har))
  rw [har]
  clear hown hown' hgr har HM0
  go_wp2_with fail
  refine wp_loop_rounds 4 ?_
  rw [rounds_succ]
  go_wp2_with (first | (at_make; refine wpList_make_full _ rfl _ _ 29 rfl W1.heap.size 3 ii (.int .i64 0) 1 Tryz.underlying29 INI.out.1 INI.out.2.1 INI.out.2.2.1 _ _ _ _ 2 (by rfl) (by rfl) (by rfl) (by rfl) INI.out.2.2.2.2.1 INI.out.2.2.2.2.2.2 (Nat.le_refl _) ?_))
  intro X0 hown hgr
  obtain ⟨d0, hd⟩ : ∃ n, W1.heap.size = n := ⟨_, rfl⟩
  rw [hd] at hown ⊢
  have hmc : (madeCells #[Value.int .i64 0] 2).toList = ints [0, 0] := by kernel_rfl
  rw [hmc] at hown
  clear hmc
  have HM2 := Lib.hid (show MB w X0 [(d0, ints [0, 0]), (ar, [.slice none 0 0, .slice none 0 0, .slice none 0 0])] by
    exact HM1.out.add (below_grown (Below.refl _ _) hgr (fun k hk => by cases hk)) (Bo.of_own hown) (Nat.le_of_eq hd))
  clear hown hgr hd HM1
  go_wp2_with (first | (refine wpList_store_cell rfl 29 _ _ (by with_reducible rfl) ar 0 (.slice (some ⟨d0, 0, none⟩) 2 2) (by with_unfolding_all rfl) (by with_unfolding_all rfl) (HM2.out.get 1 rfl) (by simp) (by kernel_rfl) rfl ?_))
  intro W2 hW2
  have HM3 := Lib.hid (show MB w W2 [(d0, ints [0, 0]), (ar, [.slice (some ⟨d0, 0, none⟩) 2 2, .slice none 0 0, .slice none 0 0])] by
    rw [hW2.out]
    exact HM2.out.put 1 rfl (j := 0) (by simp) (.slice (some ⟨d0, 0, none⟩) 2 2))
  clear hW2 HM2
  go_wp2_with fail
  rw [rounds_succ]
  go_wp2_with (first | (at_make; refine wpList_make_full _ rfl _ _ 29 rfl W2.heap.size 3 ii (.int .i64 0) 1 Tryz.underlying29 INI.out.1 INI.out.2.1 INI.out.2.2.1 _ _ _ _ 2 (by rfl) (by rfl) (by rfl) (by rfl) INI.out.2.2.2.2.1 INI.out.2.2.2.2.2.2 (Nat.le_refl _) ?_))
  intro X1 hown hgr
  obtain ⟨d1, hd⟩ : ∃ n, W2.heap.size = n := ⟨_, rfl⟩
  rw [hd] at hown ⊢
  have hmc : (madeCells #[Value.int .i64 0] 2).toList = ints [0, 0] := by kernel_rfl
  rw [hmc] at hown
  clear hmc
  have HM4 := Lib.hid (show MB w X1 [(d1, ints [0, 0]), (d0, ints [0, 0]), (ar, [.slice (some ⟨d0, 0, none⟩) 2 2, .slice none 0 0, .slice none 0 0])] by
    exact HM3.out.add (below_grown (Below.refl _ _) hgr (fun k hk => by cases hk)) (Bo.of_own hown) (Nat.le_of_eq hd))
  clear hown hgr hd HM3
  go_wp2_with (first | (refine wpList_store_cell rfl 29 _ _ (by with_reducible rfl) ar 1 (.slice (some ⟨d1, 0, none⟩) 2 2) (by with_unfolding_all rfl) (by with_unfolding_all rfl) (HM4.out.get 2 rfl) (by simp) (by kernel_rfl) rfl ?_))
  intro W3 hW3
  have HM5 := Lib.hid (show MB w W3 [(d1, ints [0, 0]), (d0, ints [0, 0]), (ar, [.slice (some ⟨d0, 0, none⟩) 2 2, .slice (some ⟨d1, 0, none⟩) 2 2, .slice none 0 0])] by
    rw [hW3.out]
    exact HM4.out.put 2 rfl (j := 1) (by simp) (.slice (some ⟨d1, 0, none⟩) 2 2))
  clear hW3 HM4
  go_wp2_with fail
  rw [rounds_succ]
  go_wp2_with (first | (at_make; refine wpList_make_full _ rfl _ _ 29 rfl W3.heap.size 3 ii (.int .i64 0) 1 Tryz.underlying29 INI.out.1 INI.out.2.1 INI.out.2.2.1 _ _ _ _ 2 (by rfl) (by rfl) (by rfl) (by rfl) INI.out.2.2.2.2.1 INI.out.2.2.2.2.2.2 (Nat.le_refl _) ?_))
  intro X2 hown hgr
  obtain ⟨d2, hd⟩ : ∃ n, W3.heap.size = n := ⟨_, rfl⟩
  rw [hd] at hown ⊢
  have hmc : (madeCells #[Value.int .i64 0] 2).toList = ints [0, 0] := by kernel_rfl
  rw [hmc] at hown
  clear hmc
  have HM6 := Lib.hid (show MB w X2 [(d2, ints [0, 0]), (d1, ints [0, 0]), (d0, ints [0, 0]), (ar, [.slice (some ⟨d0, 0, none⟩) 2 2, .slice (some ⟨d1, 0, none⟩) 2 2, .slice none 0 0])] by
    exact HM5.out.add (below_grown (Below.refl _ _) hgr (fun k hk => by cases hk)) (Bo.of_own hown) (Nat.le_of_eq hd))
  clear hown hgr hd HM5
  go_wp2_with (first | (refine wpList_store_cell rfl 29 _ _ (by with_reducible rfl) ar 2 (.slice (some ⟨d2, 0, none⟩) 2 2) (by with_unfolding_all rfl) (by with_unfolding_all rfl) (HM6.out.get 3 rfl) (by simp) (by kernel_rfl) rfl ?_))
  intro W4 hW4
  have HM7 := Lib.hid (show MB w W4 [(d2, ints [0, 0]), (d1, ints [0, 0]), (d0, ints [0, 0]), (ar, [rowV d0 2, rowV d1 2, rowV d2 2])] by
    rw [hW4.out]
    exact HM6.out.put 3 rfl (j := 2) (by simp) (.slice (some ⟨d2, 0, none⟩) 2 2))
  clear hW4 HM6
  go_wp2_with fail
  rw [rounds_succ]
  go_wp2_with fail
  refine wp_loop_rounds 1 ?_
  rw [rounds_succ]
  go_wp2_with fail
  go_ret2
  exact ⟨ar, d0, d1, d2, rfl, HM7.out.sub (by repeat (first | exact List.Sublist.refl _ | apply List.Sublist.cons_cons | apply List.Sublist.cons))⟩
set_option maxHeartbeats 32000000 in
set_option maxRecDepth 100000 in
theorem harr_is {lv rt ob rm s0 r0 s1 r1 s2 lA tA gA pb po rn hb o a b c r gt i u pk : Nat} (pc ac bc cc rc gc ic uc : Nat) {rl ul il : List Int} {mv snt : Value} {nm : Nat} {xs : List Value} (w0 w : World) (hL : LakeR w0 lv rt ob rm s0 r0 s1 r1 s2 lA tA gA (some ⟨pb, po, none⟩)) (hR : Rd w0 (some ⟨rn, 0, none⟩) (ints [50, 0, 0])) (hm : MBR w0 w 145 5 mv nm xs  [(hb, hc ob pb po pc lA tA gA rm rn o r rc gt gc i ic u uc pk (.slice none 0 0) mv snt), (o, [rowV a ac, rowV b bc, rowV c cc]), (a, ints [650, 300]), (b, ints [100, 0]), (c, ints [0, 0]), (r, ints rl), (gt, gate0), (i, ints il), (u, ints ul), (pk, ints [0, 0, 0])]) :
    Calls Tryz.prog 33 #[.pointer (some ⟨hb, 0, none⟩)] w (fun e w' => e = .returned (.tuple #[]) ∧ ∃ a' b' c', MBR w0 w' 145 5 mv nm xs  [(hb, hc ob pb po pc lA tA gA rm rn o r rc gt gc i ic u uc pk (.slice none 0 0) mv snt), (o, [rowV a' 2, rowV b' 2, rowV c' 2]), (a', ints [650, 300]), (b', ints [100, 0]), (c', ints [0, 0]), (r, ints rl), (gt, gate0), (i, ints il), (u, ints ul), (pk, ints [950, 100, 0])]) := by
  have HL := Lib.hid hL
  have HR := Lib.hid hR
  have HM0 := Lib.hid hm
  clear hL hR hm
  go_enter Tryz.func33, Tryz.ntmps33
  go_upto_region 0 with fail
  refine wp_rebase _ (fun V1 hV1 x2 => ?_)
  have HM3 := Lib.hid (show MBR w0 V1 145 5 mv nm xs  [(hb, hc ob pb po pc lA tA gA rm rn o r rc gt gc i ic u uc pk (.slice none 0 0) mv snt), (o, [rowV a ac, rowV b bc, rowV c cc]), (a, ints [650, 300]), (b, ints [100, 0]), (c, ints [0, 0]), (r, ints rl), (gt, gate0), (i, ints il), (u, ints ul), (pk, ints [0, 0, 0])] by
    rw [hV1]
    exact HM0.out)
  clear hV1
  have b4 := fun z : BelW V1 => (show z.w.cell? ⟨hb, 19, none⟩ = some (.slice none 0 0) from (HM3.out.box 0 rfl z.2).cell 19 rfl)
  have b5 := fun z : BelW V1 => (show z.w.cell? ⟨hb, 16, none⟩ = some (.int .i64 0) from (HM3.out.box 0 rfl z.2).cell 16 rfl)
  have b6 := fun z : BelW V1 => (show z.w.cell? ⟨hb, 3, none⟩ = some (.slice (some ⟨pb, po, none⟩) 3 pc) from (HM3.out.box 0 rfl z.2).cell 3 rfl)
  have b7 := fun z : BelW V1 => (show z.w.cell? ⟨hb, 1, none⟩ = some (.slice (some ⟨ob, 0, none⟩) 2 2) from (HM3.out.box 0 rfl z.2).cell 1 rfl)
  have HS := Lib.hid (show ∃ z : BelW V1, x2.w.drew = z.w from ⟨⟨_, x2.2.drew⟩, rfl⟩)
  refine wp_region_tl 27 28 (fun w' => ∃ z : BelW V1, w' = z.w) HS.out ?_
  iterate 22 (refine wpK_nx rfl rfl HS.out (Or.inl ⟨by rfl, fun w1 hS => by first | (go_simp <;> with_reducible rfl) | (obtain ⟨z, rfl⟩ := hS; (go_simp <;> with_reducible rfl))⟩) ?_; simp only [Act.put, List.setIfInBounds_toArray, List.set_cons_zero, List.set_cons_succ])
  have HC := Lib.hid (due_nil x2.w.drew)
  refine wpK_ne rfl ?_
  go_wp2_with fail
  refine HC.out.mono ?_
  rintro e w2 ⟨ar, d0, d1, d2, rfl, hD⟩
  have HB := Lib.hid (show ∃ z : BelW V1, w2 = z.w from ⟨⟨w2, below_next x2.2.drew hD.bel⟩, rfl⟩)
  have HM8 := Lib.hid (show MBR w0 w2 145 5 mv nm xs  [(d2, ints [0, 0]), (d1, ints [0, 0]), (d0, ints [0, 0]), (ar, [rowV d0 2, rowV d1 2, rowV d2 2]), (hb, hc ob pb po pc lA tA gA rm rn o r rc gt gc i ic u uc pk (.slice none 0 0) mv snt), (o, [rowV a ac, rowV b bc, rowV c cc]), (a, ints [650, 300]), (b, ints [100, 0]), (c, ints [0, 0]), (r, ints rl), (gt, gate0), (i, ints il), (u, ints ul), (pk, ints [0, 0, 0])] by
    exact (HM3.out.next x2.2.drew).join hD)
  clear hD HC HM3
  go_wp2_with fail
  refine ⟨HB.out, ?_⟩
  iterate 4 (refine wpK_nx rfl rfl HB.out (Or.inl ⟨by rfl, fun w1 hS => by first | (go_simp <;> with_reducible rfl) | (obtain ⟨z, rfl⟩ := hS; (go_simp <;> with_reducible rfl))⟩) ?_; simp only [Act.put, List.setIfInBounds_toArray, List.set_cons_zero, List.set_cons_succ])
  refine wpK_done (by kernel_rfl) ?_
  simp only [List.drop_succ_cons, List.drop_zero]
  clear HB HS b4 b5 b6 b7
  go_wp2_with (first | (refine wpList_store_cell rfl 52 _ _ (by with_reducible rfl) hb 19 (.slice none 0 0) (by with_unfolding_all rfl) (by with_unfolding_all rfl) (HM8.out.row.mem.get 4 rfl) (by simp [hc]) (by kernel_rfl) rfl ?_))
  intro W3 hW3
  have HM9 := Lib.hid (show MBR w0 W3 145 5 mv nm xs  [(d2, ints [0, 0]), (d1, ints [0, 0]), (d0, ints [0, 0]), (ar, [rowV d0 2, rowV d1 2, rowV d2 2]), (hb, hc ob pb po pc lA tA gA rm rn o r rc gt gc i ic u uc pk (.slice none 0 0) mv snt), (o, [rowV a ac, rowV b bc, rowV c cc]), (a, ints [650, 300]), (b, ints [100, 0]), (c, ints [0, 0]), (r, ints rl), (gt, gate0), (i, ints il), (u, ints ul), (pk, ints [0, 0, 0])] by
    rw [hW3.out]
    exact HM8.out.put 4 rfl (j := 19) (by simp [hc]) (.slice none 0 0))
  clear hW3 HM8
  go_upto_region 2 with fail
  refine wp_rebase _ (fun V10 hV10 x11 => ?_)
  have HM12 := Lib.hid (show MBR w0 V10 145 5 mv nm xs  [(d2, ints [0, 0]), (d1, ints [0, 0]), (d0, ints [0, 0]), (ar, [rowV d0 2, rowV d1 2, rowV d2 2]), (hb, hc ob pb po pc lA tA gA rm rn o r rc gt gc i ic u uc pk (.slice none 0 0) mv snt), (o, [rowV a ac, rowV b bc, rowV c cc]), (a, ints [650, 300]), (b, ints [100, 0]), (c, ints [0, 0]), (r, ints rl), (gt, gate0), (i, ints il), (u, ints ul), (pk, ints [0, 0, 0])] by
    rw [hV10]
    exact HM9.out)
  clear hV10
  have b13 := fun z : BelW V10 => (show z.w.cell? ⟨hb, 3, none⟩ = some (.slice (some ⟨pb, po, none⟩) 3 pc) from (HM12.out.box 4 rfl z.2).cell 3 rfl)
  go_wp2_with fail
  refine wp_loop_rounds 4 ?_
  rw [rounds_succ]
  go_upto_region 5 with fail
  try simp only [Act.put]
  clear b13
  refine wp_rebase _ (fun V14 hV14 x15 => ?_)
  have HM16 := Lib.hid (show MBR w0 V14 145 5 mv nm xs  [(d2, ints [0, 0]), (d1, ints [0, 0]), (d0, ints [0, 0]), (ar, [rowV d0 2, rowV d1 2, rowV d2 2]), (hb, hc ob pb po pc lA tA gA rm rn o r rc gt gc i ic u uc pk (.slice none 0 0) mv snt), (o, [rowV a ac, rowV b bc, rowV c cc]), (a, ints [650, 300]), (b, ints [100, 0]), (c, ints [0, 0]), (r, ints rl), (gt, gate0), (i, ints il), (u, ints ul), (pk, ints [0, 0, 0])] by
    rw [hV14]
    exact HM12.out.next x11.2)
  clear hV14
  have b17 := fun z : BelW V14 => (show z.w.cell? ⟨hb, 17, none⟩ = some (.slice (some ⟨o, 0, none⟩) 3 3) from (HM16.out.box 4 rfl z.2).cell 17 rfl)
  have b18 := fun z : BelW V14 => (show z.w.cell? ⟨o, 0, none⟩ = some (.slice (some ⟨a, 0, none⟩) 2 ac) from (HM16.out.box 5 rfl z.2).cell 0 rfl)
  have b19 := fun z : BelW V14 => (show z.w.cell? ⟨ar, 0, none⟩ = some (.slice (some ⟨d0, 0, none⟩) 2 2) from (HM16.out.box 3 rfl z.2).cell 0 rfl)
  have HS := Lib.hid (show ∃ z : BelW V14, x15.w.drew = z.w from ⟨⟨_, x15.2.drew⟩, rfl⟩)
  refine wp_region_tl 19 21 (fun w' => ∃ z : BelW V14, w' = z.w) HS.out ?_
  iterate 18 (refine wpK_nx rfl rfl HS.out (Or.inl ⟨by rfl, fun w1 hS => by first | (go_simp <;> with_reducible rfl) | (obtain ⟨z, rfl⟩ := hS; (go_simp <;> with_reducible rfl))⟩) ?_; simp only [Act.put, List.setIfInBounds_toArray, List.set_cons_zero, List.set_cons_succ])
  have HC := Lib.hid (padd_c a ac d0 2 2 [650, 300] [0, 0] [650, 300] rfl rfl (by omega) (by kernel_rfl) (by kernel_rfl) (by kernel_rfl) x15.w.drew ((HM16.out.box 6 rfl x15.2.drew).rd) ((HM16.out.box 2 rfl x15.2.drew).rd))
  refine wpK_ne rfl ?_
  go_wp2_with fail
  refine HC.out.mono ?_
  rintro e w2 ⟨a', rfl, hbo, hge, hB⟩
  have HB := Lib.hid (show ∃ z : BelW V14, w2 = z.w from ⟨⟨w2, below_next x15.2.drew hB⟩, rfl⟩)
  have HM20 := Lib.hid (show MBR w0 w2 145 5 mv nm xs  [(a', ints [650, 300]), (d2, ints [0, 0]), (d1, ints [0, 0]), (d0, ints [0, 0]), (ar, [rowV d0 2, rowV d1 2, rowV d2 2]), (hb, hc ob pb po pc lA tA gA rm rn o r rc gt gc i ic u uc pk (.slice none 0 0) mv snt), (o, [rowV a ac, rowV b bc, rowV c cc]), (a, ints [650, 300]), (b, ints [100, 0]), (c, ints [0, 0]), (r, ints rl), (gt, gate0), (i, ints il), (u, ints ul), (pk, ints [0, 0, 0])] by
    exact (HM16.out.next x15.2.drew).add hB hbo hge)
  clear hbo hge hB HC HM16
  go_wp2_with fail
  refine ⟨HB.out, wpK_done (by kernel_rfl) ?_⟩
  simp only [List.drop_succ_cons, List.drop_zero]
  clear HB HS b17 b18 b19
  go_wp2_with (first | (refine wpList_store_cell rfl 29 _ _ (by with_reducible rfl) o 0 (.slice (some ⟨a', 0, none⟩) 2 2) (by with_unfolding_all rfl) (by with_unfolding_all rfl) (HM20.out.row.mem.get 6 rfl) (by simp) (by kernel_rfl) rfl ?_))
  intro W4 hW4
  have HM21 := Lib.hid (show MBR w0 W4 145 5 mv nm xs  [(a', ints [650, 300]), (d2, ints [0, 0]), (d1, ints [0, 0]), (d0, ints [0, 0]), (ar, [rowV d0 2, rowV d1 2, rowV d2 2]), (hb, hc ob pb po pc lA tA gA rm rn o r rc gt gc i ic u uc pk (.slice none 0 0) mv snt), (o, [rowV a' 2, rowV b bc, rowV c cc]), (a, ints [650, 300]), (b, ints [100, 0]), (c, ints [0, 0]), (r, ints rl), (gt, gate0), (i, ints il), (u, ints ul), (pk, ints [0, 0, 0])] by
    rw [hW4.out]
    exact HM20.out.put 6 rfl (j := 0) (by simp) (.slice (some ⟨a', 0, none⟩) 2 2))
  clear hW4 HM20
  go_upto_region 6 with fail
  refine wp_rebase _ (fun V22 hV22 x23 => ?_)
  have HM24 := Lib.hid (show MBR w0 V22 145 5 mv nm xs  [(a', ints [650, 300]), (d2, ints [0, 0]), (d1, ints [0, 0]), (d0, ints [0, 0]), (ar, [rowV d0 2, rowV d1 2, rowV d2 2]), (hb, hc ob pb po pc lA tA gA rm rn o r rc gt gc i ic u uc pk (.slice none 0 0) mv snt), (o, [rowV a' 2, rowV b bc, rowV c cc]), (a, ints [650, 300]), (b, ints [100, 0]), (c, ints [0, 0]), (r, ints rl), (gt, gate0), (i, ints il), (u, ints ul), (pk, ints [0, 0, 0])] by
    rw [hV22]
    exact HM21.out)
  clear hV22
  have b25 := fun z : BelW V22 => (show z.w.cell? ⟨hb, 24, none⟩ = some (.slice (some ⟨pk, 0, none⟩) 3 3) from (HM24.out.box 5 rfl z.2).cell 24 rfl)
  have b26 := fun z : BelW V22 => (show z.w.cell? ⟨hb, 17, none⟩ = some (.slice (some ⟨o, 0, none⟩) 3 3) from (HM24.out.box 5 rfl z.2).cell 17 rfl)
  have b27 := fun z : BelW V22 => (show z.w.cell? ⟨o, 0, none⟩ = some (.slice (some ⟨a', 0, none⟩) 2 2) from (HM24.out.box 6 rfl z.2).cell 0 rfl)
  have CT := Lib.hid (fun z : BelW V22 => bel_of (x := z) (tot_c a' 2 2 [650, 300] 950 rfl (by kernel_rfl) (by kernel_rfl) (by omega) z.w ((HM24.out.box 0 rfl z.2).rd)))
  refine wp_region_belt 14 (by kernel_rfl) (by kernel_rfl) ?_
  simp only [List.take_succ_cons, List.take_zero, List.drop_succ_cons, List.drop_zero]
  repeat (go_big_quiet_step ((first | (go_at_call 45; with_reducible exact CT.out _))))
  refine wpQuiet_nil ?_
  intro y
  go_wp2_with (first | (refine wpList_store_cell rfl 3 _ _ (by with_reducible rfl) pk 0 (.int .i64 950) (by with_unfolding_all rfl) (by with_unfolding_all rfl) ((HM24.out.next y.2).get 14 rfl) (by simp [ints]) (by kernel_rfl) rfl ?_))
  intro W5 hW5
  have HM28 := Lib.hid (show MBR w0 W5 145 5 mv nm xs  [(a', ints [650, 300]), (d2, ints [0, 0]), (d1, ints [0, 0]), (d0, ints [0, 0]), (ar, [rowV d0 2, rowV d1 2, rowV d2 2]), (hb, hc ob pb po pc lA tA gA rm rn o r rc gt gc i ic u uc pk (.slice none 0 0) mv snt), (o, [rowV a' 2, rowV b bc, rowV c cc]), (a, ints [650, 300]), (b, ints [100, 0]), (c, ints [0, 0]), (r, ints rl), (gt, gate0), (i, ints il), (u, ints ul), (pk, ints [950, 0, 0])] by
    rw [hW5.out]
    exact (HM24.out.next y.2).put 14 rfl (j := 0) (by simp [ints]) (.int .i64 950))
  clear hW5 CT HM24 b25 b26 b27
  go_wp2_with fail
  rw [rounds_succ]
  go_upto_region 5 with fail
  try simp only [Act.put]
  refine wp_rebase _ (fun V29 hV29 x30 => ?_)
  have HM31 := Lib.hid (show MBR w0 V29 145 5 mv nm xs  [(a', ints [650, 300]), (d2, ints [0, 0]), (d1, ints [0, 0]), (d0, ints [0, 0]), (ar, [rowV d0 2, rowV d1 2, rowV d2 2]), (hb, hc ob pb po pc lA tA gA rm rn o r rc gt gc i ic u uc pk (.slice none 0 0) mv snt), (o, [rowV a' 2, rowV b bc, rowV c cc]), (a, ints [650, 300]), (b, ints [100, 0]), (c, ints [0, 0]), (r, ints rl), (gt, gate0), (i, ints il), (u, ints ul), (pk, ints [950, 0, 0])] by
    rw [hV29]
    exact HM28.out)
  clear hV29
  have b32 := fun z : BelW V29 => (show z.w.cell? ⟨hb, 17, none⟩ = some (.slice (some ⟨o, 0, none⟩) 3 3) from (HM31.out.box 5 rfl z.2).cell 17 rfl)
  have b33 := fun z : BelW V29 => (show z.w.cell? ⟨o, 1, none⟩ = some (.slice (some ⟨b, 0, none⟩) 2 bc) from (HM31.out.box 6 rfl z.2).cell 1 rfl)
  have b34 := fun z : BelW V29 => (show z.w.cell? ⟨ar, 1, none⟩ = some (.slice (some ⟨d1, 0, none⟩) 2 2) from (HM31.out.box 4 rfl z.2).cell 1 rfl)
  have HS := Lib.hid (show ∃ z : BelW V29, x30.w.drew = z.w from ⟨⟨_, x30.2.drew⟩, rfl⟩)
  refine wp_region_tl 19 21 (fun w' => ∃ z : BelW V29, w' = z.w) HS.out ?_
  iterate 18 (refine wpK_nx rfl rfl HS.out (Or.inl ⟨by rfl, fun w1 hS => by first | (go_simp <;> with_reducible rfl) | (obtain ⟨z, rfl⟩ := hS; (go_simp <;> with_reducible rfl))⟩) ?_; simp only [Act.put, List.setIfInBounds_toArray, List.set_cons_zero, List.set_cons_succ])
  have HC := Lib.hid (padd_c b bc d1 2 2 [100, 0] [0, 0] [100, 0] rfl rfl (by omega) (by kernel_rfl) (by kernel_rfl) (by kernel_rfl) x30.w.drew ((HM31.out.box 8 rfl x30.2.drew).rd) ((HM31.out.box 2 rfl x30.2.drew).rd))
  refine wpK_ne rfl ?_
  go_wp2_with fail
  refine HC.out.mono ?_
  rintro e w2 ⟨b', rfl, hbo, hge, hB⟩
  have HB := Lib.hid (show ∃ z : BelW V29, w2 = z.w from ⟨⟨w2, below_next x30.2.drew hB⟩, rfl⟩)
  have HM35 := Lib.hid (show MBR w0 w2 145 5 mv nm xs  [(b', ints [100, 0]), (a', ints [650, 300]), (d2, ints [0, 0]), (d1, ints [0, 0]), (d0, ints [0, 0]), (ar, [rowV d0 2, rowV d1 2, rowV d2 2]), (hb, hc ob pb po pc lA tA gA rm rn o r rc gt gc i ic u uc pk (.slice none 0 0) mv snt), (o, [rowV a' 2, rowV b bc, rowV c cc]), (a, ints [650, 300]), (b, ints [100, 0]), (c, ints [0, 0]), (r, ints rl), (gt, gate0), (i, ints il), (u, ints ul), (pk, ints [950, 0, 0])] by
    exact (HM31.out.next x30.2.drew).add hB hbo hge)
  clear hbo hge hB HC HM31
  go_wp2_with fail
  refine ⟨HB.out, wpK_done (by kernel_rfl) ?_⟩
  simp only [List.drop_succ_cons, List.drop_zero]
  clear HB HS b32 b33 b34
  go_wp2_with (first | (refine wpList_store_cell rfl 29 _ _ (by with_reducible rfl) o 1 (.slice (some ⟨b', 0, none⟩) 2 2) (by with_unfolding_all rfl) (by with_unfolding_all rfl) (HM35.out.row.mem.get 7 rfl) (by simp) (by kernel_rfl) rfl ?_))
  intro W6 hW6
  have HM36 := Lib.hid (show MBR w0 W6 145 5 mv nm xs  [(b', ints [100, 0]), (a', ints [650, 300]), (d2, ints [0, 0]), (d1, ints [0, 0]), (d0, ints [0, 0]), (ar, [rowV d0 2, rowV d1 2, rowV d2 2]), (hb, hc ob pb po pc lA tA gA rm rn o r rc gt gc i ic u uc pk (.slice none 0 0) mv snt), (o, [rowV a' 2, rowV b' 2, rowV c cc]), (a, ints [650, 300]), (b, ints [100, 0]), (c, ints [0, 0]), (r, ints rl), (gt, gate0), (i, ints il), (u, ints ul), (pk, ints [950, 0, 0])] by
    rw [hW6.out]
    exact HM35.out.put 7 rfl (j := 1) (by simp) (.slice (some ⟨b', 0, none⟩) 2 2))
  clear hW6 HM35
  go_upto_region 6 with fail
  refine wp_rebase _ (fun V37 hV37 x38 => ?_)
  have HM39 := Lib.hid (show MBR w0 V37 145 5 mv nm xs  [(b', ints [100, 0]), (a', ints [650, 300]), (d2, ints [0, 0]), (d1, ints [0, 0]), (d0, ints [0, 0]), (ar, [rowV d0 2, rowV d1 2, rowV d2 2]), (hb, hc ob pb po pc lA tA gA rm rn o r rc gt gc i ic u uc pk (.slice none 0 0) mv snt), (o, [rowV a' 2, rowV b' 2, rowV c cc]), (a, ints [650, 300]), (b, ints [100, 0]), (c, ints [0, 0]), (r, ints rl), (gt, gate0), (i, ints il), (u, ints ul), (pk, ints [950, 0, 0])] by
    rw [hV37]
    exact HM36.out)
  clear hV37
  have b40 := fun z : BelW V37 => (show z.w.cell? ⟨hb, 24, none⟩ = some (.slice (some ⟨pk, 0, none⟩) 3 3) from (HM39.out.box 6 rfl z.2).cell 24 rfl)
  have b41 := fun z : BelW V37 => (show z.w.cell? ⟨hb, 17, none⟩ = some (.slice (some ⟨o, 0, none⟩) 3 3) from (HM39.out.box 6 rfl z.2).cell 17 rfl)
  have b42 := fun z : BelW V37 => (show z.w.cell? ⟨o, 1, none⟩ = some (.slice (some ⟨b', 0, none⟩) 2 2) from (HM39.out.box 7 rfl z.2).cell 1 rfl)
  have CT := Lib.hid (fun z : BelW V37 => bel_of (x := z) (tot_c b' 2 2 [100, 0] 100 rfl (by kernel_rfl) (by kernel_rfl) (by omega) z.w ((HM39.out.box 0 rfl z.2).rd)))
  refine wp_region_belt 14 (by kernel_rfl) (by kernel_rfl) ?_
  simp only [List.take_succ_cons, List.take_zero, List.drop_succ_cons, List.drop_zero]
  repeat (go_big_quiet_step ((first | (go_at_call 45; with_reducible exact CT.out _))))
  refine wpQuiet_nil ?_
  intro y
  go_wp2_with (first | (refine wpList_store_cell rfl 3 _ _ (by with_reducible rfl) pk 1 (.int .i64 100) (by with_unfolding_all rfl) (by with_unfolding_all rfl) ((HM39.out.next y.2).get 15 rfl) (by simp [ints]) (by kernel_rfl) rfl ?_))
  intro W7 hW7
  have HM43 := Lib.hid (show MBR w0 W7 145 5 mv nm xs  [(b', ints [100, 0]), (a', ints [650, 300]), (d2, ints [0, 0]), (d1, ints [0, 0]), (d0, ints [0, 0]), (ar, [rowV d0 2, rowV d1 2, rowV d2 2]), (hb, hc ob pb po pc lA tA gA rm rn o r rc gt gc i ic u uc pk (.slice none 0 0) mv snt), (o, [rowV a' 2, rowV b' 2, rowV c cc]), (a, ints [650, 300]), (b, ints [100, 0]), (c, ints [0, 0]), (r, ints rl), (gt, gate0), (i, ints il), (u, ints ul), (pk, ints [950, 100, 0])] by
    rw [hW7.out]
    exact (HM39.out.next y.2).put 15 rfl (j := 1) (by simp [ints]) (.int .i64 100))
  clear hW7 CT HM39 b40 b41 b42
  go_wp2_with fail
  rw [rounds_succ]
  go_upto_region 5 with fail
  try simp only [Act.put]
  refine wp_rebase _ (fun V44 hV44 x45 => ?_)
  have HM46 := Lib.hid (show MBR w0 V44 145 5 mv nm xs  [(b', ints [100, 0]), (a', ints [650, 300]), (d2, ints [0, 0]), (d1, ints [0, 0]), (d0, ints [0, 0]), (ar, [rowV d0 2, rowV d1 2, rowV d2 2]), (hb, hc ob pb po pc lA tA gA rm rn o r rc gt gc i ic u uc pk (.slice none 0 0) mv snt), (o, [rowV a' 2, rowV b' 2, rowV c cc]), (a, ints [650, 300]), (b, ints [100, 0]), (c, ints [0, 0]), (r, ints rl), (gt, gate0), (i, ints il), (u, ints ul), (pk, ints [950, 100, 0])] by
    rw [hV44]
    exact HM43.out)
  clear hV44
  have b47 := fun z : BelW V44 => (show z.w.cell? ⟨hb, 17, none⟩ = some (.slice (some ⟨o, 0, none⟩) 3 3) from (HM46.out.box 6 rfl z.2).cell 17 rfl)
  have b48 := fun z : BelW V44 => (show z.w.cell? ⟨o, 2, none⟩ = some (.slice (some ⟨c, 0, none⟩) 2 cc) from (HM46.out.box 7 rfl z.2).cell 2 rfl)
  have b49 := fun z : BelW V44 => (show z.w.cell? ⟨ar, 2, none⟩ = some (.slice (some ⟨d2, 0, none⟩) 2 2) from (HM46.out.box 5 rfl z.2).cell 2 rfl)
  have HS := Lib.hid (show ∃ z : BelW V44, x45.w.drew = z.w from ⟨⟨_, x45.2.drew⟩, rfl⟩)
  refine wp_region_tl 19 21 (fun w' => ∃ z : BelW V44, w' = z.w) HS.out ?_
  iterate 18 (refine wpK_nx rfl rfl HS.out (Or.inl ⟨by rfl, fun w1 hS => by first | (go_simp <;> with_reducible rfl) | (obtain ⟨z, rfl⟩ := hS; (go_simp <;> with_reducible rfl))⟩) ?_; simp only [Act.put, List.setIfInBounds_toArray, List.set_cons_zero, List.set_cons_succ])
  have HC := Lib.hid (padd_c c cc d2 2 2 [0, 0] [0, 0] [0, 0] rfl rfl (by omega) (by kernel_rfl) (by kernel_rfl) (by kernel_rfl) x45.w.drew ((HM46.out.box 10 rfl x45.2.drew).rd) ((HM46.out.box 2 rfl x45.2.drew).rd))
  refine wpK_ne rfl ?_
  go_wp2_with fail
  refine HC.out.mono ?_
  rintro e w2 ⟨c', rfl, hbo, hge, hB⟩
  have HB := Lib.hid (show ∃ z : BelW V44, w2 = z.w from ⟨⟨w2, below_next x45.2.drew hB⟩, rfl⟩)
  have HM50 := Lib.hid (show MBR w0 w2 145 5 mv nm xs  [(c', ints [0, 0]), (b', ints [100, 0]), (a', ints [650, 300]), (d2, ints [0, 0]), (d1, ints [0, 0]), (d0, ints [0, 0]), (ar, [rowV d0 2, rowV d1 2, rowV d2 2]), (hb, hc ob pb po pc lA tA gA rm rn o r rc gt gc i ic u uc pk (.slice none 0 0) mv snt), (o, [rowV a' 2, rowV b' 2, rowV c cc]), (a, ints [650, 300]), (b, ints [100, 0]), (c, ints [0, 0]), (r, ints rl), (gt, gate0), (i, ints il), (u, ints ul), (pk, ints [950, 100, 0])] by
    exact (HM46.out.next x45.2.drew).add hB hbo hge)
  clear hbo hge hB HC HM46
  go_wp2_with fail
  refine ⟨HB.out, wpK_done (by kernel_rfl) ?_⟩
  simp only [List.drop_succ_cons, List.drop_zero]
  clear HB HS b47 b48 b49
  go_wp2_with (first | (refine wpList_store_cell rfl 29 _ _ (by with_reducible rfl) o 2 (.slice (some ⟨c', 0, none⟩) 2 2) (by with_unfolding_all rfl) (by with_unfolding_all rfl) (HM50.out.row.mem.get 8 rfl) (by simp) (by kernel_rfl) rfl ?_))
  intro W8 hW8
  have HM51 := Lib.hid (show MBR w0 W8 145 5 mv nm xs  [(c', ints [0, 0]), (b', ints [100, 0]), (a', ints [650, 300]), (d2, ints [0, 0]), (d1, ints [0, 0]), (d0, ints [0, 0]), (ar, [rowV d0 2, rowV d1 2, rowV d2 2]), (hb, hc ob pb po pc lA tA gA rm rn o r rc gt gc i ic u uc pk (.slice none 0 0) mv snt), (o, [rowV a' 2, rowV b' 2, rowV c' 2]), (a, ints [650, 300]), (b, ints [100, 0]), (c, ints [0, 0]), (r, ints rl), (gt, gate0), (i, ints il), (u, ints ul), (pk, ints [950, 100, 0])] by
    rw [hW8.out]
    exact HM50.out.put 8 rfl (j := 2) (by simp) (.slice (some ⟨c', 0, none⟩) 2 2))
  clear hW8 HM50
  go_upto_region 6 with fail
  refine wp_rebase _ (fun V52 hV52 x53 => ?_)
  have HM54 := Lib.hid (show MBR w0 V52 145 5 mv nm xs  [(c', ints [0, 0]), (b', ints [100, 0]), (a', ints [650, 300]), (d2, ints [0, 0]), (d1, ints [0, 0]), (d0, ints [0, 0]), (ar, [rowV d0 2, rowV d1 2, rowV d2 2]), (hb, hc ob pb po pc lA tA gA rm rn o r rc gt gc i ic u uc pk (.slice none 0 0) mv snt), (o, [rowV a' 2, rowV b' 2, rowV c' 2]), (a, ints [650, 300]), (b, ints [100, 0]), (c, ints [0, 0]), (r, ints rl), (gt, gate0), (i, ints il), (u, ints ul), (pk, ints [950, 100, 0])] by
    rw [hV52]
    exact HM51.out)
  clear hV52
  have b55 := fun z : BelW V52 => (show z.w.cell? ⟨hb, 24, none⟩ = some (.slice (some ⟨pk, 0, none⟩) 3 3) from (HM54.out.box 7 rfl z.2).cell 24 rfl)
  have b56 := fun z : BelW V52 => (show z.w.cell? ⟨hb, 17, none⟩ = some (.slice (some ⟨o, 0, none⟩) 3 3) from (HM54.out.box 7 rfl z.2).cell 17 rfl)
  have b57 := fun z : BelW V52 => (show z.w.cell? ⟨o, 2, none⟩ = some (.slice (some ⟨c', 0, none⟩) 2 2) from (HM54.out.box 8 rfl z.2).cell 2 rfl)
  have CT := Lib.hid (fun z : BelW V52 => bel_of (x := z) (tot_c c' 2 2 [0, 0] 0 rfl (by kernel_rfl) (by kernel_rfl) (by omega) z.w ((HM54.out.box 0 rfl z.2).rd)))
  refine wp_region_belt 14 (by kernel_rfl) (by kernel_rfl) ?_
  simp only [List.take_succ_cons, List.take_zero, List.drop_succ_cons, List.drop_zero]
  repeat (go_big_quiet_step ((first | (go_at_call 45; with_reducible exact CT.out _))))
  refine wpQuiet_nil ?_
  intro y
  go_wp2_with (first | (refine wpList_store_cell rfl 3 _ _ (by with_reducible rfl) pk 2 (.int .i64 0) (by with_unfolding_all rfl) (by with_unfolding_all rfl) ((HM54.out.next y.2).get 16 rfl) (by simp [ints]) (by kernel_rfl) rfl ?_))
  intro W9 hW9
  have HM58 := Lib.hid (show MBR w0 W9 145 5 mv nm xs  [(c', ints [0, 0]), (b', ints [100, 0]), (a', ints [650, 300]), (d2, ints [0, 0]), (d1, ints [0, 0]), (d0, ints [0, 0]), (ar, [rowV d0 2, rowV d1 2, rowV d2 2]), (hb, hc ob pb po pc lA tA gA rm rn o r rc gt gc i ic u uc pk (.slice none 0 0) mv snt), (o, [rowV a' 2, rowV b' 2, rowV c' 2]), (a, ints [650, 300]), (b, ints [100, 0]), (c, ints [0, 0]), (r, ints rl), (gt, gate0), (i, ints il), (u, ints ul), (pk, ints [950, 100, 0])] by
    rw [hW9.out]
    exact (HM54.out.next y.2).put 16 rfl (j := 2) (by simp [ints]) (.int .i64 0))
  clear hW9 CT HM54 b55 b56 b57
  go_wp2_with fail
  rw [rounds_succ]
  go_upto_region 8 with fail
  refine wp_rebase _ (fun V59 hV59 x60 => ?_)
  have HM61 := Lib.hid (show MBR w0 V59 145 5 mv nm xs  [(c', ints [0, 0]), (b', ints [100, 0]), (a', ints [650, 300]), (d2, ints [0, 0]), (d1, ints [0, 0]), (d0, ints [0, 0]), (ar, [rowV d0 2, rowV d1 2, rowV d2 2]), (hb, hc ob pb po pc lA tA gA rm rn o r rc gt gc i ic u uc pk (.slice none 0 0) mv snt), (o, [rowV a' 2, rowV b' 2, rowV c' 2]), (a, ints [650, 300]), (b, ints [100, 0]), (c, ints [0, 0]), (r, ints rl), (gt, gate0), (i, ints il), (u, ints ul), (pk, ints [950, 100, 0])] by
    rw [hV59]
    exact HM58.out)
  clear hV59
  have b62 := fun z : BelW V59 => (show z.w.cell? ⟨hb, 4, none⟩ = some (.slice (some ⟨lA, 0, none⟩) 1 1) from (HM61.out.box 7 rfl z.2).cell 4 rfl)
  have HLK := Lib.hid (show ∀ z : BelW V59, z.w.rangeAt lA 0 [.string gateN, .int .i64 0, .int .i64 0, .int .i64 1, .slice (bk rt) 2 2, .slice (bk rt) 2 2, .slice (bk rt) 2 2, .int .i64 4, .int .i64 1, .int .i64 0, .int .i64 0, .int .i64 0, .int .i64 0, .int .i64 0, .int .i64 0, .int .i64 0, .int .i64 0, .int .i64 0] from fun z => range_bel HL.out.link ⟨z.w, below_next HM61.out.bel z.2⟩)
  go_wp2_with fail
  refine wp_loop_rounds 2 ?_
  rw [rounds_succ]
  obtain ⟨nb, hnb⟩ : ∃ n, x60.w.heap.size = n := ⟨_, rfl⟩
  go_upto_region 11 with (first | (with_reducible refine wpList_load_g 98 _ (by with_reducible rfl) lA 0 (by with_unfolding_all rfl) (by with_unfolding_all rfl) _ _ (HLK.out _) Tryz.underlying98 (by with_unfolding_all rfl) (by kernel_rfl) ?_) | (with_reducible refine wpList_store_new (z := [.string ⟨#[]⟩, .int .i64 0, .int .i64 0, .int .i64 0, .slice none 0 0, .slice none 0 0, .slice none 0 0, .int .i64 0, .int .i64 0, .int .i64 0, .int .i64 0, .int .i64 0, .int .i64 0, .int .i64 0, .int .i64 0, .int .i64 0, .int .i64 0, .int .i64 0]) (cs := [.string gateN, .int .i64 0, .int .i64 0, .int .i64 1, .slice (bk rt) 2 2, .slice (bk rt) 2 2, .slice (bk rt) 2 2, .int .i64 4, .int .i64 1, .int .i64 0, .int .i64 0, .int .i64 0, .int .i64 0, .int .i64 0, .int .i64 0, .int .i64 0, .int .i64 0, .int .i64 0]) 98 _ _ (by with_reducible rfl) (by with_unfolding_all rfl) nb (by exact hnb.symm) _ (by with_unfolding_all rfl) (by with_unfolding_all rfl) (by with_unfolding_all rfl) (by kernel_rfl) (by with_unfolding_all rfl) ?_))
  try simp only [Act.put]
  refine wp_rebase _ (fun V63 hV63 x64 => ?_)
  have HM65 := Lib.hid (show MBR w0 V63 145 5 mv nm xs  [(nb, [.string gateN, .int .i64 0, .int .i64 0, .int .i64 1, .slice (bk rt) 2 2, .slice (bk rt) 2 2, .slice (bk rt) 2 2, .int .i64 4, .int .i64 1, .int .i64 0, .int .i64 0, .int .i64 0, .int .i64 0, .int .i64 0, .int .i64 0, .int .i64 0, .int .i64 0, .int .i64 0]), (c', ints [0, 0]), (b', ints [100, 0]), (a', ints [650, 300]), (d2, ints [0, 0]), (d1, ints [0, 0]), (d0, ints [0, 0]), (ar, [rowV d0 2, rowV d1 2, rowV d2 2]), (hb, hc ob pb po pc lA tA gA rm rn o r rc gt gc i ic u uc pk (.slice none 0 0) mv snt), (o, [rowV a' 2, rowV b' 2, rowV c' 2]), (a, ints [650, 300]), (b, ints [100, 0]), (c, ints [0, 0]), (r, ints rl), (gt, gate0), (i, ints il), (u, ints ul), (pk, ints [950, 100, 0])] by
    rw [hV63]
    exact (HM61.out.next x60.2).newAt hnb 98 [.string gateN, .int .i64 0, .int .i64 0, .int .i64 1, .slice (bk rt) 2 2, .slice (bk rt) 2 2, .slice (bk rt) 2 2, .int .i64 4, .int .i64 1, .int .i64 0, .int .i64 0, .int .i64 0, .int .i64 0, .int .i64 0, .int .i64 0, .int .i64 0, .int .i64 0, .int .i64 0])
  clear hV63
  clear HLK hnb HM61 b62
  have b66 := fun z : BelW V63 => (show z.w.cell? ⟨nb, 1, none⟩ = some (.int .i64 0) from (HM65.out.box 0 rfl z.2).cell 1 rfl)
  go_wp2_with fail
  rw [rounds_succ]
  go_wp2_with fail
  (try simp only [Exit.inBlock, Exit.then])
  refine bodyPost_end (results_none rfl _ _ _) rfl ?_
  exact ⟨rfl, a', b', c', ((HM65.out.next x64.2).pick [8, 9, 3, 2, 1, 13, 14, 15, 16, 17] (by decide) rfl)⟩
end Go.Proofs.YtngjakahanmepaaGreatDoor
namespace Go.Proofs.YtngjakahanmepaaGreatDoor
open Go.RowKit
set_option linter.unusedVariables false
set_option linter.unusedSimpArgs false
def loadV (at' to' : Int) (gp cp : Nat) : List Value := [.int .i64 at', .int .i64 to', .slice (some ⟨gp, 0, none⟩) 2 cp]
def PsB (at' to' : Int) (p : List Int) (w : World) (e : Ending) (w' : World) : Prop := ∃ g cg gp cp, e = .returned (.slice (some ⟨g, 0, none⟩) 1 cg) ∧ MB w w' [(g, loadV at' to' gp cp), (gp, ints p)]
theorem load_one {at' to' : Int} {gp cp : Nat} : ∀ v ∈ loadV at' to' gp cp, v.oneCell' = true := by
  intro v hv
  simp only [loadV, List.mem_cons, List.not_mem_nil, or_false] at hv
  rcases hv with rfl | rfl | rfl <;> rfl
set_option maxHeartbeats 8000000 in
set_option maxRecDepth 100000 in
theorem push_is (at' to' : Int) (b c : Nat) (p : List Int) (hl : p.length = 2) (ht : 0 ≤ to') (ha : AnyPos p) (w : World) (hr : Rd w (some ⟨b, 0, none⟩) (ints p)) :
    Calls Tryz.prog 105 #[.slice none 0 0, .int .i64 at', .int .i64 to', .slice (some ⟨b, 0, none⟩) 2 c] w (PsB at' to' p w) := by
  obtain ⟨il, hi0, hi1, hi2, hi3⟩ := info_parts info_load
  have hmx : 0 + 1 ≤ maxLen ∧ (0 + 1) * 40 ≤ 140737488355328 := by unfold maxLen; omega
  have INF := Lib.hid (And.intro hi0 (And.intro hi1 (And.intro hi2 (And.intro hi3 hmx))))
  have t1 : decide (to' < 0) = false := decide_eq_false (by omega)
  have HC := Lib.hid (show Calls Tryz.prog 121 #[.slice (some ⟨b, 0, none⟩) 2 c, .func (.func 122) #[] #[]] w fun e w' => e = .returned (.bool true) ∧ Below w.heap.size w w' from by
    have := contains_any (some ⟨b, 0, none⟩) c p (by omega) w hr
    rw [hl, show anyB p = true from anyB_iff.2 ha] at this
    exact this)
  have HK := Lib.hid (fun (W : World) (hb : Below w.heap.size w W) => clone_bo b c 2 p hl (by omega) (by omega) W (hr.below (Nat.le_refl _) hb))
  clear hi0 hi1 hi2 hi3 hmx hl ht ha hr
  go_enter Tryz.func105, Tryz.ntmps105
  go_wp2_with (first | (go_at_call 121; (with_reducible refine HC.out.mono ?_); rintro e w1 ⟨rfl, hb1⟩))
  have HM1 := Lib.hid ((MB.nil w).next hb1)
  have HK1 := Lib.hid (HK.out w1 hb1)
  clear hb1 HK HC
  refine HK1.out.mono ?_
  rintro e w2 ⟨gp, cp, rfl, hbo, hge, hB⟩
  have HM2 := Lib.hid (show MB w w2 [(gp, ints p)] from HM1.out.add hB hbo hge)
  clear HK1 HM1 hbo hge hB
  obtain ⟨g0, hg0⟩ : ∃ n, w2.heap.size = n := ⟨_, rfl⟩
  have HN := Lib.hid (show MB w (w2.alloc (.cells (loadV at' to' gp cp).toArray 120)) [(g0, loadV at' to' gp cp), (gp, ints p)] from HM2.out.newAt hg0 120 (loadV at' to' gp cp))
  go_wp2_with (first
    | (refine Go.Great.wpList_buildSliceTo rfl 52 120 1 _ rfl (g0) hg0 _ rfl (by kernel_rfl) #[.int .i64 at', .int .i64 to', .slice (some ⟨gp, 0, none⟩) 2 cp] (by kernel_rfl) ?_)
    | (at_builtin; refine wpList_append_own_at _ rfl _ _ _ (by rfl) (w2.alloc (.cells (loadV at' to' gp cp).toArray 120)).heap.size 120 il _ 3 40 Tryz.underlying52 INF.out.1 INF.out.2.1 INF.out.2.2.1 INF.out.2.2.2.1 rfl (by omega) _ 0 [] (by rfl) (World.ownsRow_nil _ _ _ _) ⟨g0, 0, none⟩ 1 1 (loadV at' to' gp cp) (by rfl) (by rfl) (fun j u hu => by rw [add_row]; exact (HN.out.get 0 rfl).cell j hu) load_one INF.out.2.2.2.2.1 INF.out.2.2.2.2.2 (Nat.le_refl _) ?_))
  intro v6 W6 hown hgr hnil hat
  obtain ⟨g, cap, rfl, _, _, hge, _, _⟩ := own_rd2 hown (by omega)
  have HF := Lib.hid (show MB w W6 [(g, loadV at' to' gp cp), (gp, ints p)] from
    (HN.out.sub (.cons _ (.refl _))).add (below_grown (Below.refl _ _) hgr (fun k hk => by cases hk)) (Bo.of_own hown) (by rw [World.size_alloc, hg0]; exact hge))
  clear hgr hnil hat hown hg0 hge HN HM2
  go_wp2_with fail
  go_ret
  exact ⟨g, cap, gp, cp, rfl, HF.out⟩
end Go.Proofs.YtngjakahanmepaaGreatDoor
