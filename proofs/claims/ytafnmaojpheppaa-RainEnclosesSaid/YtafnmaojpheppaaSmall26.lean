/- bournelaw26.small. -/
import Derived.Test.YtafnmaojpheppaaRSum
import Derived.Test.YtafnmaojpheppaaCells26
namespace Go.Proofs.Ytafnmaojpheppaa
open Go.RowKit
set_option linter.unusedVariables false
set_option linter.unusedSimpArgs false

theorem wpList_append_lies_g {P : Program} (w : World) {ops : Array Oper} {rest : List Oper} {o : Oper} {a : Act} {Q : Exit → Act → World → Prop} (hw : Region.wanted o (yielded ops a.tmps) = true) (s x : Operand) (t : TypeId)
    (ho : o.op = .call { callee := .builtin .append, args := #[s, x], argTypes := #[t, t] })
    (base : Nat) (e : TypeId) (i : TypeInfo) (z : Value) (size bytes : Nat) (ht : P.underlying t = some (.slice e)) (hi : P.info? e = some i) (hz : i.zero = some z)
    (hsize : i.size = size) (hby : i.bytes = bytes) (hzs : z.cells.size = size) (hsz : 0 < size)
    (v : Value) (n : Nat) (xs : List Value) (hs : a.eval s = v) (hown : w.ownsRow base e size v n xs)
    (ad : Addr) (m c : Nat) (news : List Value) (hx : a.eval x = .slice (some ad) m c) (hl : news.length = m * size) (hnews : ∀ j u, news[j]? = some u → w.cell? (ad.add j) = some u) (h1 : ∀ u ∈ news, u.oneCell' = true)
    (hm : 0 < m) (h63 : n + m ≤ maxLen) (hbytes : (n + m) * bytes ≤ 140737488355328) (hbase : base ≤ w.heap.size) (H : Nat) (hH : w.heap.size = H)
    (h : ∀ g cap w', w'.ownsRow base e size (.slice (some ⟨g, 0, none⟩) (n + m) cap) (n + m) (xs ++ news) → w.grownBy w' v.ownBlock → (v.ownBlock = some g ∨ g = H) → g < w'.heap.size → wpList P ops Q rest (a.put o.dst (.slice (some ⟨g, 0, none⟩) (n + m) cap)) w') : wpList P ops Q (o :: rest) a w :=
  wpList_step fun K hK => by
    rw [if_pos hw]
    exact wp_append_lies w s x t ho base e i z size bytes ht hi hz hsize hby hzs hsz v n xs hs hown ad m c news hx hl hnews h1 hm h63 hbytes hbase H hH fun g cap w' h2 h3 h4 h5 => hK _ _ (h g cap w' h2 h3 h4 h5)

theorem rd_new (w : World) (l : List Value) (t : TypeId) : Rd (w.alloc (.cells l.toArray t)) (some ⟨w.heap.size, 0, none⟩) l := fun _ => by
  refine ⟨⟨w.heap.size, 0, none⟩, rfl, by rw [World.size_alloc]; exact Nat.lt_succ_self _, fun j u hu => ?_⟩
  exact World.news_of_block (cs := l.toArray) (t := t) (fr := (0, 0)) (heap_alloc_new w _) j u (by simpa using hu)
theorem SpPost.open {l : List Sp} {w w' : World} {e : Ending} (h : SpPost l w e w') (hn : 0 < l.length) : ∃ g c, e = .returned (.slice (some ⟨g, 0, none⟩) l.length c) ∧ w'.ownsRow w.heap.size 40 2 (.slice (some ⟨g, 0, none⟩) l.length c) l.length (spCells l) ∧ Below w.heap.size w w' := by
  obtain ⟨A, c, rfl, _, ho, _, hb⟩ := h
  obtain ⟨g, cap, e, _⟩ := own_rd ho hn
  cases e
  exact ⟨g, c, rfl, ho, hb⟩
theorem own_two {w : World} {base g c : Nat} {a b : Int} (h : w.ownsRow base 40 2 (.slice (some ⟨g, 0, none⟩) 1 c) 1 (spCells [(a, b)])) : w.cell? ⟨g, 0, none⟩ = some (.int .i64 a) ∧ w.cell? ⟨g, 1, none⟩ = some (.int .i64 b) :=
  ⟨(World.ownsRow.cellAt h 0 (by omega)).trans rfl, (World.ownsRow.cellAt h 1 (by omega)).trans rfl⟩
theorem own_rdx {w : World} {base g n c : Nat} {xs : List Value} (h : w.ownsRow base 40 2 (.slice (some ⟨g, 0, none⟩) n c) n xs) : Rd w (some ⟨g, 0, none⟩) xs := fun _ =>
  ⟨⟨g, 0, none⟩, rfl, (World.ownsRow.lt h g rfl).2, fun j u hu => World.ownsRow.cells h (g := g) rfl j u hu⟩
def zPr (A : Option Addr) : Pr := ⟨.string ⟨#[]⟩, .int .i64 0, .int .i64 0, .int .i64 0, .slice none 0 0, .slice none 0 0, .int .i64 0, .int .i64 0, .int .i64 0, .int .i64 0, .int .i64 0, A, 1, [(0, 1000)]⟩
def zGg : Gg := ⟨.string ⟨#[]⟩, 1, 0, .int .i64 0, .int .i64 0⟩
theorem cells_c : cellsL [zGg] [10] 200 [] (cellN 1) = [(8, 12)] := by decide
theorem cells_d : cellsL [zGg] [10] 200 [⟨0, 0, 9, 20⟩, ⟨0, 0, 13, 15⟩] (cellN 1) = [(9, 12)] := by decide
theorem mesh_c (A : Option Addr) : meshL [(8, 12)] [zPr A] = [(8000, 12000)] := by
  show [meshP [(8, 12)] [(0, 1000)]] = _
  decide

set_option maxHeartbeats 16000000 in
set_option maxRecDepth 100000 in
theorem small_any (w : World) : Calls Try.prog 8 #[] w fun e w' => e = .returned (.bool true) ∧ Below w.heap.size w w' := by
  obtain ⟨i0, hi0, hz0, hz1, hz2⟩ := info_parts info_span
  have INF := Lib.hid (And.intro hi0 (And.intro hz0 (And.intro hz1 hz2)))
  clear hi0 hz0 hz1 hz2
  have hgt := span_guardType
  have hst := span_stood
  go_enter Try.func8, Try.ntmps8
  go_upto_region 2 with (first
    | (with_reducible refine wpList_build_as (o := ⟨some 7, _, _, _, _, _⟩) 53 _ (by with_reducible rfl) (by with_unfolding_all rfl) #[.string ⟨#[]⟩, .int .i64 0, .int .i64 0, .int .i64 0, .slice none 0 0, .slice none 0 0, .int .i64 0, .int .i64 0, .int .i64 0, .int .i64 0, .int .i64 0, .slice (some ⟨w.heap.size, 0, none⟩) 1 1] (by kernel_rfl) ?_)
    | (with_reducible refine wpList_build_as (o := ⟨some 11, _, _, _, _, _⟩) 31 _ (by with_reducible rfl) (by with_unfolding_all rfl) #[.string ⟨#[]⟩, .slice none 0 0, .int .i64 1, .slice (some ⟨w.heap.size + 1, 0, none⟩) 1 1, .slice none 0 0, .slice none 0 0, .slice (some ⟨w.heap.size + 1 + 1, 0, none⟩) 1 1, .slice none 0 0, .slice none 0 0, .slice none 0 0, .int .i64 0] (by kernel_rfl) ?_)
    | (with_reducible refine wpList_store_new (z := [.string ⟨#[]⟩, .slice none 0 0, .int .i64 0, .slice none 0 0, .slice none 0 0, .slice none 0 0, .slice none 0 0, .slice none 0 0, .slice none 0 0, .slice none 0 0, .int .i64 0]) (cs := [.string ⟨#[]⟩, .slice none 0 0, .int .i64 1, .slice (some ⟨w.heap.size + 1, 0, none⟩) 1 1, .slice none 0 0, .slice none 0 0, .slice (some ⟨w.heap.size + 1 + 1, 0, none⟩) 1 1, .slice none 0 0, .slice none 0 0, .slice none 0 0, .int .i64 0]) 31 _ _ (by with_reducible rfl) (by with_unfolding_all rfl) (w.heap.size + 1 + 1 + 1) (by with_unfolding_all rfl) _ (by with_unfolding_all rfl) (by with_unfolding_all rfl) (by with_unfolding_all rfl) (by kernel_rfl) (by with_unfolding_all rfl) ?_))
  refine wp_rebase _ (fun W hW x0 => ?_)
  have HBW := Lib.hid (show Below w.heap.size w W by rw [hW]; exact bel_alloc (bel_alloc (bel_alloc (bel_alloc (Below.refl _ _) _) _) _) _)
  have HBAS := Lib.hid (show W.rangeAt (w.heap.size + 1 + 1 + 1) 0 [.string ⟨#[]⟩, .slice none 0 0, .int .i64 1, .slice (some ⟨w.heap.size + 1, 0, none⟩) 1 1, .slice none 0 0, .slice none 0 0, .slice (some ⟨w.heap.size + 1 + 1, 0, none⟩) 1 1, .slice none 0 0, .slice none 0 0, .slice none 0 0, .int .i64 0] by
    rw [hW]
    have := range_new (((w.alloc (.cells #[.int .i64 0, .int .i64 1000] 63)).alloc (.cells (prc (zPr (some ⟨w.heap.size, 0, none⟩))).toArray 53)).alloc (.cells (ggc zGg).toArray 67)) 31 [.string ⟨#[]⟩, .slice none 0 0, .int .i64 1, .slice (some ⟨w.heap.size + 1, 0, none⟩) 1 1, .slice none 0 0, .slice none 0 0, .slice (some ⟨w.heap.size + 1 + 1, 0, none⟩) 1 1, .slice none 0 0, .slice none 0 0, .slice none 0 0, .int .i64 0]
    rw [World.size_alloc, World.size_alloc, World.size_alloc] at this
    exact this)
  have HP := Lib.hid (show Ps W (some ⟨w.heap.size + 1, 0, none⟩) [zPr (some ⟨w.heap.size, 0, none⟩)] by
    rw [hW]
    have h1 := rd_new (w.alloc (.cells #[.int .i64 0, .int .i64 1000] 63)) (prc (zPr (some ⟨w.heap.size, 0, none⟩))) 53
    rw [World.size_alloc] at h1
    refine ⟨(h1.alloc _).alloc _, fun x hx => ?_⟩
    rw [List.mem_singleton.1 hx]
    exact (((rd_new w (spCells [(0, 1000)]) 63).alloc _).alloc _).alloc _)
  have HG := Lib.hid (show Rd W (some ⟨w.heap.size + 1 + 1, 0, none⟩) (ggCells [zGg]) by
    rw [hW]
    have h1 := rd_new ((w.alloc (.cells #[.int .i64 0, .int .i64 1000] 63)).alloc (.cells (prc (zPr (some ⟨w.heap.size, 0, none⟩))).toArray 53)) (ggc zGg) 67
    rw [World.size_alloc, World.size_alloc] at h1
    exact h1.alloc _)
  clear hW
  have GO : ∀ x ∈ [zGg], GgOne x := fun x hx => by rw [List.mem_singleton.1 hx]; exact ⟨rfl, by unfold Fit zGg; decide⟩
  have CC := Lib.hid (show ∀ U : World, Below W.heap.size W U → ∀ RA : Addr, Rd U (some RA) (ints [10]) → Calls Try.prog 11 #[.agg #[.string ⟨#[]⟩, .slice none 0 0, .int .i64 1, .slice (some ⟨w.heap.size + 1, 0, none⟩) 1 1, .slice none 0 0, .slice none 0 0, .slice (some ⟨w.heap.size + 1 + 1, 0, none⟩) 1 1, .slice none 0 0, .slice none 0 0, .slice none 0 0, .int .i64 0], .slice (some RA) 1 1, .int .i64 200, .slice none 0 0] U (SpPost [(8, 12)] U) from fun U hU RA hR => by
    have h := cells_any (some ⟨w.heap.size + 1 + 1, 0, none⟩) (some RA) none 1 1 0 [zGg] [10] [] 1 200 (.string ⟨#[]⟩) (.slice none 0 0) (.slice (some ⟨w.heap.size + 1, 0, none⟩) 1 1) (.slice none 0 0) (.slice none 0 0) (.slice none 0 0) (.slice none 0 0) (.slice none 0 0) (.int .i64 0) (by simp) (by simp) (by simp) (by unfold Fit; decide) (fun r hr => by cases hr) GO U (HG.out.below (Nat.le_refl _) hU) hR (Rd.nil _ _)
    rw [cells_c] at h
    exact h)
  have CD := Lib.hid (show ∀ U : World, Below W.heap.size W U → ∀ RA SA : Addr, Rd U (some RA) (ints [10]) → Rd U (some SA) (rgCells [⟨0, 0, 9, 20⟩, ⟨0, 0, 13, 15⟩]) → Calls Try.prog 11 #[.agg #[.string ⟨#[]⟩, .slice none 0 0, .int .i64 1, .slice (some ⟨w.heap.size + 1, 0, none⟩) 1 1, .slice none 0 0, .slice none 0 0, .slice (some ⟨w.heap.size + 1 + 1, 0, none⟩) 1 1, .slice none 0 0, .slice none 0 0, .slice none 0 0, .int .i64 0], .slice (some RA) 1 1, .int .i64 200, .slice (some SA) 2 2] U (SpPost [(9, 12)] U) from fun U hU RA SA hR hS => by
    have h := cells_any (some ⟨w.heap.size + 1 + 1, 0, none⟩) (some RA) (some SA) 1 1 2 [zGg] [10] [⟨0, 0, 9, 20⟩, ⟨0, 0, 13, 15⟩] 1 200 (.string ⟨#[]⟩) (.slice none 0 0) (.slice (some ⟨w.heap.size + 1, 0, none⟩) 1 1) (.slice none 0 0) (.slice none 0 0) (.slice none 0 0) (.slice none 0 0) (.slice none 0 0) (.int .i64 0) (by simp) (by simp) (by simp) (by unfold Fit; decide) (fun r hr => by
      simp at hr
      rcases hr with rfl | rfl <;> (unfold RgOk Fit; decide)) GO U (HG.out.below (Nat.le_refl _) hU) hR hS
    rw [cells_d] at h
    exact h)
  have CM := Lib.hid (show ∀ U : World, Below W.heap.size W U → ∀ (CA : Addr) (c : Nat), Rd U (some CA) (spCells [(8, 12)]) → Calls Try.prog 13 #[.agg #[.string ⟨#[]⟩, .slice none 0 0, .int .i64 1, .slice (some ⟨w.heap.size + 1, 0, none⟩) 1 1, .slice none 0 0, .slice none 0 0, .slice (some ⟨w.heap.size + 1 + 1, 0, none⟩) 1 1, .slice none 0 0, .slice none 0 0, .slice none 0 0, .int .i64 0], .slice (some CA) 1 c] U (SpPost [(8000, 12000)] U) from fun U hU CA c hC => by
    have h := mesh_any (some ⟨w.heap.size + 1, 0, none⟩) (some CA) 1 c [zPr (some ⟨w.heap.size, 0, none⟩)] [(8, 12)] (.string ⟨#[]⟩) (.slice none 0 0) (.int .i64 1) (.slice none 0 0) (.slice none 0 0) (.slice (some ⟨w.heap.size + 1 + 1, 0, none⟩) 1 1) (.slice none 0 0) (.slice none 0 0) (.slice none 0 0) (.int .i64 0) (by simp) (fun x hx => by rw [List.mem_singleton.1 hx]; simp [zPr]) (by simp) (fun x hx => by rw [List.mem_singleton.1 hx]; rfl) U (HP.out.below (Nat.le_refl _) hU) hC
    rw [mesh_c] at h
    exact h)
  clear GO HP HG
  have HR0 := Lib.hid (BelW.range HBAS.out x0)
  go_wp2_with (first | (with_reducible refine wpList_load_g 31 _ (by with_reducible rfl) _ _ (by with_unfolding_all rfl) (by with_unfolding_all rfl) _ _ HR0.out Try.underlying31 (by with_unfolding_all rfl) (by kernel_rfl) ?_))
  refine (CC.out _ (bel_alloc x0.2 _) _ (rd_new x0.w (ints [10]) 3)).mono ?_
  rintro e w1 h1
  obtain ⟨g1, c1, rfl, ho1, hb1⟩ := h1.open (by simp)
  have HB1 := Lib.hid (below_next (bel_alloc x0.2 _) hb1)
  have HO1 := Lib.hid ho1
  have HR1 := Lib.hid (show w1.rangeAt (w.heap.size + 1 + 1 + 1) 0 [.string ⟨#[]⟩, .slice none 0 0, .int .i64 1, .slice (some ⟨w.heap.size + 1, 0, none⟩) 1 1, .slice none 0 0, .slice none 0 0, .slice (some ⟨w.heap.size + 1 + 1, 0, none⟩) 1 1, .slice none 0 0, .slice none 0 0, .slice none 0 0, .int .i64 0] from BelW.range HBAS.out ⟨w1, HB1.out⟩)
  clear h1 ho1 hb1 HR0
  go_wp2_with (first | (with_reducible refine wpList_load_g 31 _ (by with_reducible rfl) _ _ (by with_unfolding_all rfl) (by with_unfolding_all rfl) _ _ HR1.out Try.underlying31 (by with_unfolding_all rfl) (by kernel_rfl) ?_))
  refine (CD.out _ (bel_alloc (bel_alloc HB1.out _) _) _ _ ((rd_new w1 (ints [10]) 3).alloc _) (by
    have := rd_new (w1.alloc (.cells (ints [10]).toArray 3)) (rgCells [⟨0, 0, 9, 20⟩, ⟨0, 0, 13, 15⟩]) 47
    rw [World.size_alloc] at this
    exact this)).mono ?_
  rintro e w2 h2
  obtain ⟨g2, c2, rfl, ho2, hb2⟩ := h2.open (by simp)
  have HB12 := Lib.hid (below_next (bel_alloc (bel_alloc (Below.refl w1.heap.size w1) _) _) hb2)
  have HB2 := Lib.hid (below_next HB1.out HB12.out)
  have HO12 := Lib.hid (own_below HO1.out HB12.out)
  have HO2 := Lib.hid ho2
  have HR2 := Lib.hid (show w2.rangeAt (w.heap.size + 1 + 1 + 1) 0 [.string ⟨#[]⟩, .slice none 0 0, .int .i64 1, .slice (some ⟨w.heap.size + 1, 0, none⟩) 1 1, .slice none 0 0, .slice none 0 0, .slice (some ⟨w.heap.size + 1 + 1, 0, none⟩) 1 1, .slice none 0 0, .slice none 0 0, .slice none 0 0, .int .i64 0] from BelW.range HBAS.out ⟨w2, HB2.out⟩)
  obtain ⟨a1, a2⟩ := own_two HO12.out
  obtain ⟨b1, b2⟩ := own_two HO2.out
  clear h2 ho2 hb2 HR1 HO1
  go_wp2_with (first | (with_reducible refine wpList_load_g 31 _ (by with_reducible rfl) _ _ (by with_unfolding_all rfl) (by with_unfolding_all rfl) _ _ HR2.out Try.underlying31 (by with_unfolding_all rfl) (by kernel_rfl) ?_))
  refine (CM.out _ HB2.out _ _ (own_rdx HO12.out)).mono ?_
  rintro e w3 h3
  obtain ⟨g3, c3, rfl, ho3, hb3⟩ := h3.open (by simp)
  have HB3 := Lib.hid (below_next HB2.out hb3)
  have HO3 := Lib.hid ho3
  have HL3 := Lib.hid hb3.size
  obtain ⟨d1, d2⟩ := own_two HO3.out
  clear h3 ho3 hb3 HR2 a1 a2 b1 b2
  have HMX := Lib.hid (show 1 + 1 ≤ maxLen ∧ (1 + 1) * 16 ≤ 140737488355328 by unfold maxLen; constructor <;> omega)
  have CS := Lib.hid (show ∀ (U : World) (A : Addr) (c : Nat), Rd U (some A) (spCells ([(8000, 12000)] ++ [(8000, 12000)])) → Calls Try.prog 15 #[.slice (some A) 2 c] U fun e w' => e = .returned (.agg #[.int .i64 16000, .int .i64 24000]) ∧ Below U.heap.size U w' from fun U A c hA => by
    have h := sum_any (some A) c ([(8000, 12000)] ++ [(8000, 12000)]) (by simp) (fun x hx => by
      simp at hx
      subst hx
      unfold Fit2 Fit; decide) U hA
    rw [show sumL ([(8000, 12000)] ++ [(8000, 12000)]) = (16000, 24000) by decide] at h
    exact h)
  go_wp2_with (first | (at_builtin; refine wpList_append_lies_g _ (by rfl) _ _ _ (by rfl) w2.heap.size 40 i0 _ 2 16 Try.underlying33 INF.out.1 INF.out.2.1 INF.out.2.2.1 INF.out.2.2.2 rfl (by omega) _ 1 (spCells [(8000, 12000)]) (by rfl) HO3.out ⟨g3, 0, none⟩ 1 c3 (spCells [(8000, 12000)]) (by rfl) (by rfl) (fun j u hu => World.ownsRow.cells HO3.out (g := g3) rfl j u hu) (spCells_one _) (by omega) HMX.out.1 HMX.out.2 HL3.out w3.heap.size rfl ?_))
  intro g4 c4 w4 ho4 hg4 hat4 hl4
  have HB4 := Lib.hid (show Below W.heap.size W w4 from HB3.out.grown hg4 HB3.out.size (fun k hk => by have := (HO3.out.lt k hk).1; have := HB2.out.size; omega))
  have HR4 := Lib.hid (show Rd w4 (some ⟨g4, 0, none⟩) (spCells ([(8000, 12000)] ++ [(8000, 12000)])) from own_rdx ho4)
  clear ho4 hg4 hat4
  go_wp2_with (first | (go_at_call 15; (with_reducible refine (CS.out _ _ _ HR4.out).mono ?_); rintro e w5 ⟨rfl, hb5⟩))
  go_ret
  exact ⟨rfl, below_next HBW.out (below_next HB4.out hb5)⟩

end Go.Proofs.Ytafnmaojpheppaa
