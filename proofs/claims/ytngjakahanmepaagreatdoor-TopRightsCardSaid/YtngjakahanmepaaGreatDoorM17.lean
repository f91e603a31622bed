/- Part 17 of the proof of TopRights: slices.Clone at rights; appends whose source came in. The order of rights: plain. Rows of rights, held for the sort. right.Order. The law's has, supplied. The law's supplied. The law's placed. date.In, right.monthDay: the answer in plain words. right.Right: the answer in plain words. basin.in, volume, index, fraction, target: the answers in plain words. Rows of a basin: towns, shelters, gauges, roads, links; loops that check every element. No walk. basin.next. basin.slope. -/
import Derived.Test.YtngjakahanmepaaGreatDoorM16
import Derived.Lib.SliceRun
import Derived.Laws.AppendOwnNone
namespace Go.Proofs.YtngjakahanmepaaGreatDoor
open Go.RowKit
set_option linter.unusedVariables false
set_option linter.unusedSimpArgs false
theorem Rd.holds {w : World} {A : Option Addr} {vs : List Value} (h : Rd w A vs) : ∀ b, A = some b → ∀ j u, vs[j]? = some u → w.cell? (b.add j) = some u := fun b e j u hu => by
  obtain ⟨ad, e', _, hc⟩ := h (by have := (List.getElem?_eq_some_iff.1 hu).1; omega)
  rw [e] at e'
  cases e'
  exact hc j u hu
section
variable {P : Program} (w : World)
theorem wpList_append_rd {ops : Array Oper} {rest : List Oper} {o : Oper} {a : Act} {Q : Exit → Act → World → Prop} (hgd : o.guard = none) (s x : Operand) (t : TypeId)
    (ho : o.op = .call { callee := .builtin .append, args := #[s, x], argTypes := #[t, t] })
    (base : Nat) (e : TypeId) (i : TypeInfo) (z : Value) (size bytes : Nat) (ht : P.underlying t = some (.slice e)) (hi : P.info? e = some i) (hz : i.zero = some z)
    (hsize : i.size = size) (hby : i.bytes = bytes) (hzs : z.cells.size = size) (hsz : 0 < size)
    (v : Value) (n : Nat) (xs : List Value) (hs : a.eval s = v) (hown : w.ownsRow base e size v n xs)
    (A : Option Addr) (m c : Nat) (news : List Value) (hx : a.eval x = .slice A m c) (hA : A = none → c = 0) (hl : news.length = m * size) (hr : Rd w A news) (h1 : ∀ u ∈ news, u.oneCell' = true)
    (h63 : n + m ≤ maxLen) (hbytes : (n + m) * bytes ≤ 140737488355328) (hbase : base ≤ w.heap.size)
    (h : ∀ v' w', w'.ownsRow base e size v' (n + m) (xs ++ news) → w.grownBy w' v.ownBlock → (v'.ownBlock = v.ownBlock ∨ v'.ownBlock = some w.heap.size) → wpList P ops Q rest (a.put o.dst v') w') : wpList P ops Q (o :: rest) a w := by
  cases A with
  | none =>
    have hm : m = 0 := by
      rcases Nat.eq_zero_or_pos m with h0 | h0
      · exact h0
      · obtain ⟨ad, e', _⟩ := hr (by rw [hl]; exact Nat.mul_pos h0 hsz)
        cases e'
    subst hm
    have hc := hA rfl
    subst hc
    have hn : news = [] := List.eq_nil_of_length_eq_zero (by simpa using hl)
    subst hn
    exact wpList_append_own_none hgd s x t ho base e i size ht hi v n xs hs hown hx (h v w (by simpa using hown) (World.grownBy.refl w _) (.inl rfl))
  | some ad =>
    exact wpList_append_own_at w hgd s x t ho base e i z size bytes ht hi hz hsize hby hzs hsz v n xs hs hown ad m c news hx hl (hr.holds ad rfl) h1 h63 hbytes hbase fun v' w' h2 h3 _ h5 => h v' w' h2 h3 h5
end
theorem own_rd2 {w : World} {base : Nat} {e : TypeId} {size : Nat} {v : Value} {n : Nat} {xs : List Value} (h : w.ownsRow base e size v n xs) (hn : 0 < n) :
    ∃ g cap, v = .slice (some ⟨g, 0, none⟩) n cap ∧ n ≤ cap ∧ cap ≤ maxLen ∧ base ≤ g ∧ g < w.heap.size ∧ Rd w (some ⟨g, 0, none⟩) xs := by
  have h' := h
  rcases h.2 with ⟨_, h0⟩ | ⟨g, cap, cur, rfl, hb, hg, hc, hm, _⟩
  · omega
  · have hlt : g < w.heap.size := by
      rcases Nat.lt_or_ge g w.heap.size with hlt | hge
      · exact hlt
      · rw [Array.getElem?_eq_none hge] at hg; cases hg
    exact ⟨g, cap, rfl, hc, hm, hb, hlt, fun _ => ⟨⟨g, 0, none⟩, rfl, hlt, fun j u hu => h'.cells (g := g) rfl j u hu⟩⟩
theorem own_empty {w : World} {base : Nat} (e : TypeId) (size : Nat) (hb : base ≤ w.heap.size) : (w.alloc (.cells #[] e)).ownsRow base e size (.slice (some ⟨w.heap.size, 0, none⟩) 0 0) 0 [] :=
  ⟨by simp, .inr ⟨w.heap.size, 0, #[], rfl, hb, heap_alloc_new w _, Nat.le_refl _, Nat.zero_le _, by simp, by simp⟩⟩
theorem rt_one (l : List Rt) : ∀ u ∈ rtCells l, u.oneCell' = true := fun u hu => by
  unfold rtCells at hu
  obtain ⟨x, _, hx⟩ := List.mem_flatMap.1 hu
  simp only [rtc, List.mem_cons, List.not_mem_nil, or_false] at hx
  rcases hx with rfl | rfl | rfl | rfl | rfl | rfl | rfl | rfl | rfl <;> rfl
theorem info_right : (Tryz.prog.info? 46).map (fun i => (i.zero, i.size, i.bytes)) = some (some (.agg #[.int .i64 0, .int .i64 0, .int .i64 0, .int .i64 0, .int .i64 0, .int .i64 0, .int .i64 0, .int .i64 0, .int .i64 0]), 9, 72) := by kernel_rfl
/-- a row of rights that the call made -/
def RtPost (l : List Rt) (w : World) (e : Ending) (w' : World) : Prop := ∃ A c, e = .returned (.slice A l.length c) ∧ (A = none → c = 0) ∧ w'.ownsRow w.heap.size 46 9 (.slice A l.length c) l.length (rtCells l) ∧ Rd w' A (rtCells l) ∧ Below w.heap.size w w'
set_option maxHeartbeats 4000000 in
theorem rclone_any (A : Option Addr) (c : Nat) (p : List Rt) (hA : A = none → c = 0) (hn : p.length ≤ 1000) (w : World) (hr : Rd w A (rtCells p)) :
    Calls Tryz.prog 24 #[.slice A p.length c] w (RtPost p w) := by
  obtain ⟨i0, hi0, hz0, hz1, hz2⟩ := info_parts info_right
  have INF := Lib.hid (And.intro hi0 (And.intro hz0 (And.intro hz1 hz2)))
  cases A with
  | none =>
    have hl : p = [] := by
      cases p with
      | nil => rfl
      | cons a l => obtain ⟨ad, e, _⟩ := hr (by rw [rtCells_length]; simp); cases e
    subst hl
    have hc := hA rfl
    subst hc
    clear hr hA hn hi0 hz0 hz1 hz2
    have he : ∀ W, (binOp .eql 37 (.slice none 0 0) (.slice none 0 0)).run Tryz.prog W = .ok (.bool true) W := fun W => Lib.run_eql_slice_nil (P := Tryz.prog) W 37 46 none 0 0 0 0 Tryz.underlying37
    show Calls Tryz.prog 24 #[.slice none 0 0] w _
    go_enter Tryz.func24, Tryz.ntmps24
    go_wp2_with fail
    go_ret
    exact ⟨none, 0, rfl, fun _ => rfl, World.ownsRow_nil _ _ _ _, Rd.nil _ _, Below.refl _ _⟩
  | some ad =>
    have HR := Lib.hid hr
    have he : ∀ W, (binOp .eql 37 (.slice (some ad) p.length c) (.slice none 0 0)).run Tryz.prog W = .ok (.bool false) W := fun W => Lib.run_eql_slice_nil (P := Tryz.prog) W 37 46 (some ad) p.length c 0 0 Tryz.underlying37
    clear hr hA hi0 hz0 hz1 hz2
    go_enter Tryz.func24, Tryz.ntmps24
    go_wp2_with (first | (at_builtin; refine wpList_append_rd _ rfl _ _ _ (by rfl) w.heap.size 46 i0 _ 9 72 Tryz.underlying37 INF.out.1 INF.out.2.1 INF.out.2.2.1 INF.out.2.2.2 rfl (by omega) _ 0 [] (by rfl) (own_empty _ _ (Nat.le_refl _)) (some ad) p.length c (rtCells p) (by rfl) (fun h => by cases h) (rtCells_length p) (HR.out.alloc _) (rt_one p) (by unfold maxLen; omega) (by omega) (by simp) ?_))
    intro v w1 hown hgrow hat
    have hb1 : Below w.heap.size w w1 := (bel_alloc (Below.refl _ _) _).grown hgrow (bel_alloc (Below.refl _ _) _).size (fun k hk => by simp [Value.ownBlock] at hk; omega)
    have hfin : RtPost p w (.returned v) w1 := by
      have hown' : w1.ownsRow w.heap.size 46 9 v p.length (rtCells p) := by simpa using hown
      obtain ⟨A2, c2, rfl, h1, h2⟩ := own_slice hown'
      exact ⟨A2, c2, rfl, h1, hown', h2, hb1⟩
    have HF := Lib.hid hfin
    clear hown hgrow hat hb1 hfin
    go_wp2_with fail
    go_ret
    exact HF.out
end Go.Proofs.YtngjakahanmepaaGreatDoor
namespace Go.Proofs.YtngjakahanmepaaGreatDoor
open Go.RowKit Go.Shelf Go.Lib Go.Sort
set_option linter.unusedVariables false
set_option linter.unusedSimpArgs false
/-- x is senior to y -/
def Sen (x y : Rt) : Prop := x.date < y.date ∨ x.date = y.date ∧ x.id < y.id
theorem cfR_neg (x y : Rt) : cfR x y < 0 ↔ Sen x y := by
  unfold cfR orI cmpI Sen
  constructor
  · intro h
    split at h <;> split at h <;> (try split at h) <;> omega
  · intro h
    split <;> split <;> (try split) <;> omega
theorem ltR_true {x y : Rt} : ltOf cfR x y = true ↔ Sen x y := by
  unfold ltOf
  rw [decide_eq_true_eq]
  exact cfR_neg x y
theorem ltR_false {x y : Rt} : ltOf cfR x y = false ↔ ¬ Sen x y := by
  rw [← ltR_true, Bool.not_eq_true]
theorem swoR : SWO (ltOf cfR) :=
  ⟨fun x => ltR_false.2 (by unfold Sen; omega), fun x y z h1 h2 => ltR_true.2 (by have := ltR_true.1 h1; have := ltR_true.1 h2; unfold Sen at *; omega),
   fun x y z h1 h2 => ltR_false.2 (by have := ltR_false.1 h1; have := ltR_false.1 h2; unfold Sen at *; omega)⟩
/-- what the sort lays -/
def sortR (l : List Rt) : List Rt := (Sort.insertionSort (ltOf cfR) l.toArray 0 l.toArray.size).toList
theorem sortR_spec (l : List Rt) : (sortR l).Perm l ∧ ∀ i j, i < j → j < (sortR l).length → ¬ Sen (rt (sortR l) j) (rt (sortR l) i) := by
  have h := insertionSort_holds (lt := ltOf cfR) swoR l.toArray 0 l.toArray.size (Nat.zero_le _) (Nat.le_refl _)
  obtain ⟨⟨hs, _, hp⟩, so⟩ := h
  unfold sortR
  obtain ⟨d, hd⟩ : ∃ d, Sort.insertionSort (ltOf cfR) l.toArray 0 l.toArray.size = d := ⟨_, rfl⟩
  rw [hd] at hs hp so ⊢
  have e1 : d.extract 0 l.toArray.size = d := by rw [← hs]; exact Array.extract_size
  have e2 : l.toArray.extract 0 l.toArray.size = l.toArray := Array.extract_size
  rw [e1, e2] at hp
  refine ⟨hp, fun i j hij hj => ?_⟩
  rw [Array.length_toList] at hj
  have := so i j (Nat.zero_le _) hij (by omega)
  have g : ∀ k, k < d.size → rt d.toList k = d[k]! := fun k hk => by
    rw [rt_at (by rw [Array.length_toList]; exact hk), Array.getElem_toList, getElem!_pos d k hk]
  rw [g i (by omega), g j hj]
  exact ltR_false.1 this
/-- with different numbers the order is strict -/
theorem sortR_strict {l : List Rt} (h : (l.map Rt.id).Nodup) : ∀ i j, i < j → j < (sortR l).length → Sen (rt (sortR l) i) (rt (sortR l) j) := fun i j hij hj => by
  obtain ⟨hp, hs⟩ := sortR_spec l
  have hn : ((sortR l).map Rt.id).Nodup := (hp.map Rt.id).nodup_iff.2 h
  have h1 := hs i j hij hj
  have hne : (rt (sortR l) i).id ≠ (rt (sortR l) j).id := fun e => by
    rw [rt_at (by omega), rt_at hj] at e
    have := (List.pairwise_iff_getElem.1 hn) i j (by rw [List.length_map]; omega) (by rw [List.length_map]; exact hj) hij
    rw [List.getElem_map, List.getElem_map] at this
    exact this e
  unfold Sen at *
  omega
end Go.Proofs.YtngjakahanmepaaGreatDoor
namespace Go.Proofs.YtngjakahanmepaaGreatDoor
open Go.RowKit Go.Shelf Go.Lib Go.Sort
set_option linter.unusedVariables false
set_option linter.unusedSimpArgs false
theorem rtCells_get {l : List Rt} {j : Nat} (hj : j < l.length * 9) : (rtCells l)[j]? = some ((rtc (l.toArray[j / 9]!))[j % 9]!) := by
  have h1 : j / 9 < l.length := by omega
  have h2 : j % 9 < 9 := by omega
  have h3 : j = j / 9 * 9 + j % 9 := by omega
  have e : l.toArray[j / 9]! = l[j / 9] := by simp [h1]
  rw [e]
  conv => lhs; rw [h3]
  unfold rtCells
  rw [flat_get rtc 9 rtc_length l (j / 9) (j % 9) h1 h2, List.getElem?_eq_getElem (by rw [rtc_length]; exact h2), getElem!_pos (rtc l[j / 9]) (j % 9) (by rw [rtc_length]; exact h2)]
theorem holds_of_own {w : World} {B n c g : Nat} {l : List Rt} (h : w.ownsRow B 46 9 (.slice (some ⟨g, 0, none⟩) n c) n (rtCells l)) (hl : l.length = n) : HoldsK rtc 9 w g 0 l.toArray := fun j hj => by
  have hj' : j < l.length * 9 := by simpa using hj
  refine ⟨?_, World.ownsRow.frozenAt h _⟩
  rw [Nat.zero_add, World.ownsRow.cellAt h j (by omega), rtCells_get hj', get_flatK _ _ _ j (by simpa using hj')]
  rfl
theorem rd_of_holds {w : World} {g : Nat} {d : Array Rt} (h : HoldsK rtc 9 w g 0 d) (hb : g < w.heap.size) : Rd w (some ⟨g, 0, none⟩) (rtCells d.toList) := fun _ => by
  refine ⟨⟨g, 0, none⟩, rfl, hb, fun j u hu => ?_⟩
  have hj : j < d.toList.length * 9 := by have := (List.getElem?_eq_some_iff.1 hu).1; rwa [rtCells_length] at this
  have hj' : j < d.size * 9 := by simpa using hj
  have := (h j (by simpa using hj')).1
  rw [Nat.zero_add, get_flatK _ _ _ j hj'] at this
  rw [rtCells_get hj] at hu
  cases hu
  have e : (⟨g, 0, none⟩ : Addr).add j = ⟨g, j, none⟩ := by unfold Addr.add; split <;> simp_all
  rw [e, this]
  rfl
theorem below_sort {w : World} {B g : Nat} (m : Nat) (d : Array Rt) (os : Array Obj) (hB : B ≤ g) (hg : g < w.heap.size) : Below B w (sortWorldK rtc 9 w g 0 m d os) := by
  unfold sortWorldK
  refine ⟨rfl, rfl, rfl, by rw [size_grow, size_putRowK]; exact Nat.le_add_right _ _, fun k hk => ?_⟩
  rw [heap_grow_old _ _ (by rw [size_putRowK]; exact Nat.lt_of_lt_of_le hk (Nat.le_trans hB (Nat.le_of_lt hg)))]
  show ((Sort.ahead w m).heap.modify g _)[k]? = _
  rw [Array.getElem?_modify, if_neg (fun h => by omega)]
  rfl
end Go.Proofs.YtngjakahanmepaaGreatDoor
namespace Go.Proofs.YtngjakahanmepaaGreatDoor
open Go.RowKit Go.Shelf Go.Lib Go.Sort
set_option linter.unusedVariables false
set_option linter.unusedSimpArgs false
set_option maxHeartbeats 4000000 in
theorem ins_nil (w : World) : Calls Tryz.prog 116 #[.slice none 0 0, .int .i64 0, .int .i64 0, .func (.func 55) #[] #[]] w fun e w' => e = .returned (.tuple #[]) ∧ w' = w := by
  go_enter Tryz.func116, Tryz.ntmps116
  go_wp2_with fail
  refine wp_loop_rounds 1 ?_
  rw [rounds_succ]
  go_wp2_with fail
  go_end0
  exact ⟨rfl, rfl⟩
set_option maxHeartbeats 4000000 in
theorem stable_nil (w : World) : Calls Tryz.prog 95 #[.slice none 0 0, .int .i64 0, .func (.func 55) #[] #[]] w fun e w' => e = .returned (.tuple #[]) ∧ w' = w := by
  go_enter Tryz.func95, Tryz.ntmps95
  go_wp2_with fail
  refine wp_loop_rounds 1 ?_
  rw [rounds_succ]
  go_wp2_with (first | (go_at_call 116; (with_reducible refine (ins_nil _).mono ?_); rintro e w' ⟨rfl, rfl⟩))
  refine wp_loop_rounds 1 ?_
  rw [rounds_succ]
  go_wp2_with fail
  go_end0
  exact ⟨rfl, rfl⟩
theorem sort_nil (w : World) : Calls Tryz.prog 54 #[.slice none 0 0, .func (.func 55) #[] #[]] w fun e w' => e = .returned (.tuple #[]) ∧ w' = w := by
  go_enter Tryz.func54, Tryz.ntmps54
  go_wp2_with (first | (go_at_call 95; (with_reducible refine (stable_nil _).mono ?_); rintro e w' ⟨rfl, rfl⟩))
  go_end0
  exact ⟨rfl, rfl⟩
/-- the rights in order -/
def OrdPost (l : List Rt) (w : World) (e : Ending) (w' : World) : Prop := ∃ A c, e = .returned (.slice A l.length c) ∧ (A = none → c = 0) ∧ l.length ≤ c ∧ Rd w' A (rtCells (sortR l)) ∧ Below w.heap.size w w'
set_option maxHeartbeats 4000000 in
theorem order_any (A : Option Addr) (c : Nat) (l : List Rt) (hA : A = none → c = 0) (hn : l.length ≤ 19) (w : World) (hr : Rd w A (rtCells l)) :
    Calls Tryz.prog 23 #[.slice A l.length c] w (OrdPost l w) := by
  have CC := Lib.hid (rclone_any A c l hA (by omega) w hr)
  clear hr hA
  go_enter Tryz.func23, Tryz.ntmps23
  go_wp2_with fail
  refine CC.out.mono ?_
  rintro e w1 ⟨A2, c2, rfl, hA2, hown, hrd, hb⟩
  have HB := Lib.hid hb
  cases A2 with
  | none =>
    have hl : l = [] := by
      cases l with
      | nil => rfl
      | cons a l => obtain ⟨ad, e, _⟩ := hrd (by rw [rtCells_length]; simp); cases e
    subst hl
    have hc := hA2 rfl
    subst hc
    have HX := Lib.hid (show OrdPost [] w (.returned (.slice none 0 0)) w1 from ⟨none, 0, rfl, fun _ => rfl, Nat.le_refl _, by
      have := (sortR_spec []).1
      rw [List.perm_nil.1 this]
      exact Rd.nil _ _, HB.out⟩)
    clear hown hrd hb hA2
    go_wp2_with (first | (go_at_call 54; (with_reducible refine (sort_nil _).mono ?_); rintro e w' ⟨rfl, rfl⟩))
    go_ret
    exact HX.out
  | some ad =>
    have HO := Lib.hid hown
    rcases hown.2 with ⟨e, _⟩ | ⟨g, cap, cur, e, _, _, hnc, _⟩
    · cases e
    · cases e
      have hlt := World.ownsRow.lt HO.out g rfl
      have CS := Lib.hid (show Calls Tryz.prog 54 #[.slice (some ⟨g, 0, none⟩) l.length c2, .func (.func 55) #[] #[]] w1 fun e w' => e = .returned (.tuple #[]) ∧ OrdPost l w (.returned (.slice (some ⟨g, 0, none⟩) l.length c2)) w' from by
        have hH := holds_of_own HO.out rfl
        refine (sort_rights g 0 c2 l.toArray w1 hH hlt.2 (by simpa using hn)).mono ?_
        rintro e w' ⟨rfl, n, os, rfl⟩
        have hsz : (Sort.insertionSort (ltOf cfR) l.toArray 0 l.toArray.size).size = l.toArray.size := (insertionSort_holds (lt := ltOf cfR) swoR l.toArray 0 l.toArray.size (Nat.zero_le _) (Nat.le_refl _)).1.1
        refine ⟨rfl, some ⟨g, 0, none⟩, c2, rfl, (fun h => by cases h), hnc, ?_, HB.out.trans (below_sort n _ os hlt.1 hlt.2)⟩
        exact rd_of_holds (holdsK_sortWorldK_c rtc 9 w1 g 0 l.toArray _ n os hH hlt.2 hsz) (Nat.lt_of_lt_of_le hlt.2 (size_sortWorldK_c rtc 9 w1 g 0 n _ os)))
      clear hown hrd hb hA2 hlt HO HB
      go_wp2_with (first | (go_at_call 54; (with_reducible refine CS.out.mono ?_); rintro e w' ⟨rfl, hw⟩; have HW := Lib.hid hw; clear hw))
      go_ret
      exact HW.out
end Go.Proofs.YtngjakahanmepaaGreatDoor
namespace Go.Proofs.YtngjakahanmepaaGreatDoor
open Go.RowKit
set_option linter.unusedVariables false
set_option linter.unusedSimpArgs false
def HasR (l : List Int) (n : Int) (w : World) (s5 : Value) (wr : World) : Prop := ∃ k : Nat, k ≤ l.length ∧ s5 = .int .i64 (k : Int) ∧ Hid (∀ i, i < k → gi l i ≠ n) ∧ ∃ y : BelW w, wr = y.w
set_option maxHeartbeats 8000000 in
theorem lhas_any (A : Option Addr) (c : Nat) (l : List Int) (n : Int) (hln : l.length ≤ 9223372036854775807) (w : World) (hr : Rd w A (ints l)) :
    Calls Tryz.prog 12 #[.slice A l.length c, .int .i64 n] w fun e w' => e = .returned (.bool (decide (n ∈ l))) ∧ Below w.heap.size w w' := by
  have HR := Lib.hid hr
  clear hr
  have HIN := Lib.hid (fun (k : Nat) (hk : k < l.length) (e : gi l k = n) => (show decide (n ∈ l) = true from decide_eq_true (by
    have : gi l k = l[k] := by simp [gi, List.getD, hk]
    rw [← e, this]; exact List.getElem_mem hk)))
  have HOUT := Lib.hid (fun (h : ∀ i, i < l.length → gi l i ≠ n) => (show decide (n ∈ l) = false from decide_eq_false (fun hm => by
    obtain ⟨i, hi, e⟩ := List.mem_iff_getElem.1 hm
    exact h i hi (by simp [gi, List.getD, hi, e]))))
  obtain ⟨r, hres⟩ : ∃ r, decide (n ∈ l) = r := ⟨_, rfl⟩
  rw [hres] at HIN HOUT ⊢
  clear hres
  go_enter Tryz.func12, Tryz.ntmps12
  go_wp2_with fail
  go_loopw [5] (fun s5 wr => HasR l n w s5 wr) (fun i _ => l.length - (intOf i).toNat)
  case atStart => exact ⟨0, by omega, rfl, Lib.hid (fun i hi => absurd hi (Nat.not_lt_zero _)), ⟨w, Below.refl _ _⟩, rfl⟩
  case round =>
    obtain ⟨k, hk, rfl, hno, y, rfl⟩ := hrel
    have HNO := Lib.hid hno.out
    clear hno
    by_cases hlt : k < l.length
    · have i4 : decide ((k : Int) < (l.length : Int)) = true := decide_eq_true (by omega)
      have j1 : (0 : Int) ≤ (k : Int) := by omega
      have j2 : (k : Int) < (l.length : Int) := by omega
      obtain ⟨ad, rfl, e1⟩ := rd_row (HR.out.bel y) hlt
      have HX := Lib.hid (HIN.out k hlt)
      have HNX := Lib.hid (show gi l k ≠ n → ∀ i, i < k + 1 → gi l i ≠ n from fun h i hi => by
        by_cases e : i = k
        · subst e; exact h
        · exact HNO.out i (by omega))
      obtain ⟨x, hx⟩ : ∃ m, gi l k = m := ⟨_, rfl⟩
      rw [hx] at e1 HX HNX
      clear hx
      by_cases he : x = n
      · have hr2 := HX.out he
        have HY := Lib.hid y.2
        subst he
        subst hr2
        clear HX HNX HIN HOUT
        go_wp2_with fail
        go_ret
        exact ⟨rfl, HY.out⟩
      · have t1 : (x == n) = false := beq_eq_false_iff_ne.2 he
        have HN2 := Lib.hid (HNX.out he)
        clear he HX HNX
        go_wp2_with fail
        go_roundw
        case rel => exact ⟨k + 1, by omega, by go_num, Lib.hid HN2.out, y, rfl⟩
        case measure => simp [intOf]; omega
    · have i4 : decide ((k : Int) < (l.length : Int)) = false := decide_eq_false (by omega)
      obtain rfl : k = l.length := by omega
      have hr2 := HOUT.out HNO.out
      have HY := Lib.hid y.2
      subst hr2
      clear HIN HOUT
      go_wp2_with fail
      go_ret
      exact ⟨rfl, HY.out⟩
end Go.Proofs.YtngjakahanmepaaGreatDoor
namespace Go.Proofs.YtngjakahanmepaaGreatDoor
open Go.RowKit
set_option linter.unusedVariables false
set_option linter.unusedSimpArgs false
structure SupB (n : Nat) (w : World) (e : Ending) (w' : World) : Prop where
  ans : ∃ b, e = .returned (.bool b) ∧ (b = true → n ≤ 10)
  bel : Below w.heap.size w w'
def SupR (n : Nat) (w : World) (s3 : Value) (wr : World) : Prop := ∃ k : Nat, k ≤ n ∧ s3 = .int .i64 (k : Int) ∧ ∃ y : BelW w, wr = y.w
set_option maxHeartbeats 8000000 in
theorem supplied_any (A : Option Addr) (c : Nat) (l : List Int) (hln : l.length ≤ 9223372036854775807) (w : World) (hr : Rd w A (ints l)) :
    Calls Tryz.prog 7 #[.slice A l.length c] w (SupB l.length w) := by
  have HR := Lib.hid hr
  clear hr
  have HE := Lib.hid (fun y : BelW w => (show SupB l.length w (.returned (.bool false)) y.w from ⟨⟨false, rfl, fun h => by cases h⟩, y.2⟩))
  go_enter Tryz.func7, Tryz.ntmps7
  go_wp2_with fail
  go_loopw [3] (fun s3 wr => SupR l.length w s3 wr) (fun i _ => l.length - (intOf i).toNat)
  case atStart => exact ⟨0, by omega, rfl, ⟨w, Below.refl _ _⟩, rfl⟩
  case round =>
    obtain ⟨k, hk, rfl, y, rfl⟩ := hrel
    by_cases hlt : k < l.length
    · have i4 : decide ((k : Int) < (l.length : Int)) = true := decide_eq_true (by omega)
      have j1 : (0 : Int) ≤ (k : Int) := by omega
      have j2 : (k : Int) < (l.length : Int) := by omega
      obtain ⟨ad, rfl, e1⟩ := rd_row (HR.out.bel y) hlt
      obtain ⟨x, hx⟩ : ∃ m, gi l k = m := ⟨_, rfl⟩
      rw [hx] at e1
      clear hx
      by_cases h1 : x < 0
      · have t1 : decide (x < 0) = true := decide_eq_true h1
        clear h1
        go_wp2_with fail
        go_ret
        exact HE.out y
      by_cases h2 : 1099511627776 < x
      · have t1 : decide (x < 0) = false := decide_eq_false h1
        have t2 : decide (1099511627776 < x) = true := decide_eq_true h2
        clear h1 h2
        go_wp2_with fail
        go_ret
        exact HE.out y
      have t1 : decide (x < 0) = false := decide_eq_false h1
      have t2 : decide (1099511627776 < x) = false := decide_eq_false h2
      clear h1 h2
      go_wp2_with fail
      go_roundw
      case rel => exact ⟨k + 1, by omega, by go_num, y, rfl⟩
      case measure => simp [intOf]; omega
    · have i4 : decide ((k : Int) < (l.length : Int)) = false := decide_eq_false (by omega)
      have HX := Lib.hid (show SupB l.length w (.returned (.bool (decide ((l.length : Int) ≤ 10)))) y.w from ⟨⟨_, rfl, fun h => by have := of_decide_eq_true h; omega⟩, y.2⟩)
      go_wp2_with fail
      go_ret
      exact HX.out
end Go.Proofs.YtngjakahanmepaaGreatDoor
namespace Go.Proofs.YtngjakahanmepaaGreatDoor
open Go.RowKit
set_option linter.unusedVariables false
set_option linter.unusedSimpArgs false
/-- the right's place and owner are there -/
def In2 (n on : Nat) (x : Rt) : Prop := 0 ≤ x.pla ∧ x.pla < (n : Int) ∧ 0 ≤ x.own ∧ x.own < (on : Int)
structure PlB (n on : Nat) (l : List Rt) (w : World) (e : Ending) (w' : World) : Prop where
  ans : ∃ b, e = .returned (.bool b) ∧ (b = true → ∀ k, k < l.length → In2 n on (rt l k))
  bel : Below w.heap.size w w'
def PlR (V : World) (n on : Nat) (l : List Rt) (s5 : Value) (wr : World) : Prop := ∃ k : Nat, k ≤ l.length ∧ s5 = .int .i64 (k : Int) ∧ Hid (∀ i, i < k → In2 n on (rt l i)) ∧ ∃ y : BelW V, wr = y.w
set_option maxHeartbeats 16000000 in
set_option maxRecDepth 100000 in
theorem placed_any (d0 d2 d4 d5 d6 d7 d8 d9 d10 : Value) (A B C : Option Addr) (on oc cb n c : Nat) (l : List Rt) (hln : l.length ≤ 9223372036854775807) (w : World) (hr : Rd w C (rtCells l)) :
    Calls Tryz.prog 9 #[.agg #[d0, .slice A on oc, d2, .slice B n cb, d4, d5, d6, d7, d8, d9, d10], .slice C l.length c] w (PlB n on l w) := by
  go_enter Tryz.func9, Tryz.ntmps9
  go_upto_region 1 with fail
  refine wp_rebase _ (fun V hV x0 => ?_)
  have HB0 := Lib.hid (show Below w.heap.size w V by rw [hV]; exact bel_alloc (Below.refl _ _) _)
  have HBB := Lib.hid (show V.rangeAt w.heap.size 0 [d0, .slice A on oc, d2, .slice B n cb, d4, d5, d6, d7, d8, d9, d10] by rw [hV]; exact range_new _ _ [d0, .slice A on oc, d2, .slice B n cb, d4, d5, d6, d7, d8, d9, d10])
  have HR := Lib.hid (hr.below (Nat.le_refl _) HB0.out)
  clear hV hr
  have HE := Lib.hid (fun y : BelW V => (show PlB n on l w (.returned (.bool false)) y.w from ⟨⟨false, rfl, fun h => by cases h⟩, below_next HB0.out y.2⟩))
  have b1 := fun z : BelW V => (show z.w.cell? ⟨w.heap.size, 1, none⟩ = some (.slice A on oc) from BelW.range HBB.out z 1 _ rfl)
  have b3 := fun z : BelW V => (show z.w.cell? ⟨w.heap.size, 3, none⟩ = some (.slice B n cb) from BelW.range HBB.out z 3 _ rfl)
  go_wp2_with fail
  go_loopw [5] (fun s5 wr => PlR V n on l s5 wr) (fun i _ => l.length - (intOf i).toNat)
  case atStart => exact ⟨0, by omega, rfl, Lib.hid (fun i hi => absurd hi (Nat.not_lt_zero _)), x0, rfl⟩
  case round =>
    obtain ⟨k, hk, rfl, hno, y, rfl⟩ := hrel
    have HNO := Lib.hid hno.out
    clear hno
    by_cases hlt : k < l.length
    case neg =>
      have i4 : decide ((k : Int) < (l.length : Int)) = false := decide_eq_false (by omega)
      obtain rfl : k = l.length := by omega
      have HX := Lib.hid (show PlB n on l w (.returned (.bool true)) y.w from ⟨⟨true, rfl, fun _ => HNO.out⟩, below_next HB0.out y.2⟩)
      go_wp2_with fail
      go_ret
      exact HX.out
    have i4 : decide ((k : Int) < (l.length : Int)) = true := decide_eq_true (by omega)
    have j1 : (0 : Int) ≤ (k : Int) := by omega
    have j2 : (k : Int) < (l.length : Int) := by omega
    obtain ⟨ad, rb, ro, rfl, hbs, hE, hrt⟩ := HR.out.rt hlt
    have HNX := Lib.hid (show In2 n on (rt l k) → ∀ i, i < k + 1 → In2 n on (rt l i) from fun h i hi => by
      by_cases e : i = k
      · subst e; exact h
      · exact HNO.out i (by omega))
    obtain ⟨X, hX⟩ : ∃ X, rt l k = X := ⟨_, rfl⟩
    rw [hX] at hrt HNX
    clear hX hbs
    have r3 := fun z : BelW V => (show z.w.cell? ⟨rb, ro + 3, none⟩ = some (.int .i64 X.pla) from BelW.cells (hrt 3 _ rfl) z)
    have r1 := fun z : BelW V => (show z.w.cell? ⟨rb, ro + 1, none⟩ = some (.int .i64 X.own) from BelW.cells (hrt 1 _ rfl) z)
    clear hrt
    go_upto_region 4 with fail
    by_cases h1 : X.pla < 0
    · have t1 : decide (X.pla < 0) = true := decide_eq_true h1
      clear h1
      refine wp_region_belx (by kernel_rfl) (by kernel_rfl) ?_
      repeat (go_big_quiet_step (fail))
      refine wpQuiet_nil ?_
      intro y1
      go_wp2_with fail
      go_ret
      exact HE.out y1
    have t1 : decide (X.pla < 0) = false := decide_eq_false h1
    by_cases h2 : (n : Int) ≤ X.pla
    · have t2 : decide ((n : Int) ≤ X.pla) = true := decide_eq_true h2
      clear h1 h2
      refine wp_region_belx (by kernel_rfl) (by kernel_rfl) ?_
      repeat (go_big_quiet_step (fail))
      refine wpQuiet_nil ?_
      intro y1
      go_wp2_with fail
      go_ret
      exact HE.out y1
    have t2 : decide ((n : Int) ≤ X.pla) = false := decide_eq_false h2
    by_cases h3 : X.own < 0
    · have t3 : decide (X.own < 0) = true := decide_eq_true h3
      clear h1 h2 h3
      refine wp_region_belx (by kernel_rfl) (by kernel_rfl) ?_
      repeat (go_big_quiet_step (fail))
      refine wpQuiet_nil ?_
      intro y1
      go_wp2_with fail
      go_ret
      exact HE.out y1
    have t3 : decide (X.own < 0) = false := decide_eq_false h3
    by_cases h4 : (on : Int) ≤ X.own
    · have t4 : decide ((on : Int) ≤ X.own) = true := decide_eq_true h4
      clear h1 h2 h3 h4
      refine wp_region_belx (by kernel_rfl) (by kernel_rfl) ?_
      repeat (go_big_quiet_step (fail))
      refine wpQuiet_nil ?_
      intro y1
      go_wp2_with fail
      go_ret
      exact HE.out y1
    · have t4 : decide ((on : Int) ≤ X.own) = false := decide_eq_false h4
      have HN2 := Lib.hid (HNX.out ⟨by omega, by omega, by omega, by omega⟩)
      clear h1 h2 h3 h4 HNX
      refine wp_region_belx (by kernel_rfl) (by kernel_rfl) ?_
      repeat (go_big_quiet_step (fail))
      refine wpQuiet_nil ?_
      intro y1
      go_wp2_with fail
      go_roundw
      case rel => exact ⟨k + 1, by omega, by go_num, Lib.hid HN2.out, y1, rfl⟩
      case measure => simp [intOf]; omega
end Go.Proofs.YtngjakahanmepaaGreatDoor
namespace Go.Proofs.YtngjakahanmepaaGreatDoor
open Go.RowKit
set_option linter.unusedVariables false
set_option linter.unusedSimpArgs false
def inF (m d f u : Int) : Bool := existsF (wrap64 (f.tdiv 100)) (f.tmod 100) && existsF (wrap64 (u.tdiv 100)) (u.tmod 100) && existsF m d && (if f ≤ u then decide (f ≤ wrap64 (wrap64 (100 * m) + d)) && decide (wrap64 (wrap64 (100 * m) + d) ≤ u) else decide (f ≤ wrap64 (wrap64 (100 * m) + d)) || decide (wrap64 (wrap64 (100 * m) + d) ≤ u))
set_option maxHeartbeats 16000000 in
theorem in_ex (y m d h f u : Int) (w : World) (hM : Mon w) :
    Calls Tryz.prog 53 #[.agg #[.int .i64 y, .int .i64 m, .int .i64 d, .int .i64 h], .int .i64 f, .int .i64 u] w fun e w' => e = .returned (.bool (inF m d f u)) ∧ Below w.heap.size w w' := by
  have HM := Lib.hid hM
  clear hM
  go_enter Tryz.func53, Tryz.ntmps53
  go_upto_region 1 with fail
  refine wp_rebase _ (fun V hV x0 => ?_)
  have HB0 := Lib.hid (show Below w.heap.size w V by rw [hV]; exact bel_alloc (Below.refl _ _) _)
  have HBOX := Lib.hid (show V.rangeAt w.heap.size 0 [.int .i64 y, .int .i64 m, .int .i64 d, .int .i64 h] by rw [hV]; exact range_new _ _ [.int .i64 y, .int .i64 m, .int .i64 d, .int .i64 h])
  have HMV := Lib.hid (fun (x : BelW V) => (show Mon x.w from HM.out.below (Nat.le_refl _) (below_next HB0.out x.2)))
  clear hV
  have C1 := Lib.hid (fun (x : BelW V) {b : Bool} (h : existsF (wrap64 (f.tdiv 100)) (f.tmod 100) = b) => bel_of (x := x) (exists_is h x.w (HMV.out x)))
  have C2 := Lib.hid (fun (x : BelW V) {b : Bool} (h : existsF (wrap64 (u.tdiv 100)) (u.tmod 100) = b) => bel_of (x := x) (exists_is h x.w (HMV.out x)))
  have C3 := Lib.hid (fun (x : BelW V) {b : Bool} (h : existsF m d = b) => bel_of (x := x) (exists_is h x.w (HMV.out x)))
  have HE := Lib.hid (fun (z : BelW V) => (show Below w.heap.size w z.w from below_next HB0.out z.2))
  have c1 := fun x : BelW V => (show x.w.cell? ⟨w.heap.size, 1, none⟩ = some (.int .i64 m) from BelW.range HBOX.out x 1 _ rfl)
  have c2 := fun x : BelW V => (show x.w.cell? ⟨w.heap.size, 2, none⟩ = some (.int .i64 d) from BelW.range HBOX.out x 2 _ rfl)
  cases hb1 : existsF (wrap64 (f.tdiv 100)) (f.tmod 100)
  case false =>
    go_wp2_with (first | (go_at_call 94; (with_reducible refine (C1.out _ hb1).mono ?_); rintro e w1 ⟨rfl, z1, rfl⟩))
    go_ret
    exact ⟨by simp [inF, hb1], HE.out z1⟩
  case true =>
  cases hb2 : existsF (wrap64 (u.tdiv 100)) (u.tmod 100)
  case false =>
    go_wp2_with (first | (go_at_call 94; (with_reducible refine (C1.out _ hb1).mono ?_); rintro e w1 ⟨rfl, z1, rfl⟩) | (go_at_call 94; (with_reducible refine (C2.out _ hb2).mono ?_); rintro e w1 ⟨rfl, z2, rfl⟩))
    go_ret
    exact ⟨by simp [inF, hb1, hb2], HE.out z2⟩
  case true =>
  cases hb3 : existsF m d
  case false =>
    go_wp2_with (first | (go_at_call 94; (with_reducible refine (C1.out _ hb1).mono ?_); rintro e w1 ⟨rfl, z1, rfl⟩) | (go_at_call 94; (with_reducible refine (C2.out _ hb2).mono ?_); rintro e w1 ⟨rfl, z2, rfl⟩) | (go_at_call 94; (with_reducible refine (C3.out _ hb3).mono ?_); rintro e w1 ⟨rfl, z3, rfl⟩))
    go_ret
    exact ⟨by simp [inF, hb1, hb2, hb3], HE.out z3⟩
  case true =>
    go_wp2_with (first | (go_at_call 94; (with_reducible refine (C1.out _ hb1).mono ?_); rintro e w1 ⟨rfl, z1, rfl⟩) | (go_at_call 94; (with_reducible refine (C2.out _ hb2).mono ?_); rintro e w1 ⟨rfl, z2, rfl⟩) | (go_at_call 94; (with_reducible refine (C3.out _ hb3).mono ?_); rintro e w1 ⟨rfl, z3, rfl⟩))
    all_goals go_ret
    all_goals (refine ⟨?_, HE.out z3⟩; clear C1 C2 C3 c1 c2 HE HMV HBOX HB0 HM; simp only [inF, hb1, hb2, hb3]; generalize wrap64 (wrap64 (100 * m) + d) = q at *; by_cases g1 : f ≤ u <;> by_cases g2 : f ≤ q <;> by_cases g3 : q ≤ u <;> simp_all <;> omega)
def mdF (n : Int) : Bool := inF (wrap64 (n.tdiv 100)) (n.tmod 100) n n
set_option maxHeartbeats 4000000 in
theorem monthday_ex (n : Int) (w : World) (hM : Mon w) :
    Calls Tryz.prog 51 #[.int .i64 n] w fun e w' => e = .returned (.bool (mdF n)) ∧ Below w.heap.size w w' := by
  have HM := Lib.hid hM
  clear hM
  have HI := Lib.hid (in_ex 0 (wrap64 (n.tdiv 100)) (n.tmod 100) 0 n n w HM.out)
  unfold mdF
  obtain ⟨b, hb⟩ : ∃ b, inF (wrap64 (n.tdiv 100)) (n.tmod 100) n n = b := ⟨_, rfl⟩
  rw [hb] at HI ⊢
  clear hb
  go_enter Tryz.func51, Tryz.ntmps51
  go_wp2_with (first | (go_at_call 53; (with_reducible refine HI.out.mono ?_); rintro e w1 ⟨rfl, hb⟩))
  go_ret
  exact ⟨rfl, hb⟩
def ixF (i n : Int) : Bool := decide (0 ≤ i ∧ i < n)
theorem index_ex (i n : Int) (w : World) : Calls Tryz.prog 50 #[.int .i64 i, .int .i64 n] w fun e w' => e = .returned (.bool (ixF i n)) ∧ Below w.heap.size w w' := by
  go_enter Tryz.func50, Tryz.ntmps50
  go_wp2_with fail
  all_goals go_ret
  all_goals exact ⟨by simp_all [ixF] <;> omega, by go_grown⟩
end Go.Proofs.YtngjakahanmepaaGreatDoor
namespace Go.Proofs.YtngjakahanmepaaGreatDoor
open Go.RowKit
set_option linter.unusedVariables false
set_option linter.unusedSimpArgs false
def rightF (on n : Nat) (id own date pla rate fr un bk bt : Int) : Bool :=
  decide (0 ≤ id ∧ id ≤ 2147483647) && ixF own on && decide (0 ≤ date ∧ date ≤ 1125899906842624) && ixF pla n && decide (0 ≤ rate ∧ rate ≤ 1125899906842624) && mdF fr && mdF un && decide (0 ≤ bk ∧ bk ≤ 1000) && (ixF bt n || decide (bt = -1) && decide (bk = 0))
set_option maxHeartbeats 32000000 in
set_option maxRecDepth 100000 in
theorem right_ex (d0 d2 d4 d5 d6 d7 d8 d9 d10 : Value) (A B : Option Addr) (on oc cb n : Nat) (id own date pla rate fr un bk bt : Int) (w : World) (hM : Mon w) :
    Calls Tryz.prog 19 #[.agg #[d0, .slice A on oc, d2, .slice B n cb, d4, d5, d6, d7, d8, d9, d10], .agg #[.int .i64 id, .int .i64 own, .int .i64 date, .int .i64 pla, .int .i64 rate, .int .i64 fr, .int .i64 un, .int .i64 bk, .int .i64 bt]] w fun e w' => e = .returned (.bool (rightF on n id own date pla rate fr un bk bt)) ∧ Below w.heap.size w w' := by
  have HM := Lib.hid hM
  clear hM
  go_enter Tryz.func19, Tryz.ntmps19
  go_upto_region 1 with fail
  refine wp_rebase _ (fun V hV x0 => ?_)
  have HB0 := Lib.hid (show Below w.heap.size w V by rw [hV]; exact bel_alloc (bel_alloc (Below.refl _ _) _) _)
  have HBB := Lib.hid (show V.rangeAt w.heap.size 0 [d0, .slice A on oc, d2, .slice B n cb, d4, d5, d6, d7, d8, d9, d10] by rw [hV]; exact range_bel (range_new w _ [d0, .slice A on oc, d2, .slice B n cb, d4, d5, d6, d7, d8, d9, d10]) ⟨_, bel_alloc (Below.refl _ _) _⟩)
  have HBR := Lib.hid (show V.rangeAt (w.heap.size + 1) 0 [.int .i64 id, .int .i64 own, .int .i64 date, .int .i64 pla, .int .i64 rate, .int .i64 fr, .int .i64 un, .int .i64 bk, .int .i64 bt] by
    have := range_new (w.alloc (.cells #[d0, .slice A on oc, d2, .slice B n cb, d4, d5, d6, d7, d8, d9, d10] 31)) 46 [.int .i64 id, .int .i64 own, .int .i64 date, .int .i64 pla, .int .i64 rate, .int .i64 fr, .int .i64 un, .int .i64 bk, .int .i64 bt]
    rw [World.size_alloc] at this
    rw [hV]; exact this)
  have HMV := Lib.hid (fun (x : BelW V) => (show Mon x.w from HM.out.below (Nat.le_refl _) (below_next HB0.out x.2)))
  clear hV
  have b1 := fun z : BelW V => (show z.w.cell? ⟨w.heap.size, 1, none⟩ = some (.slice A on oc) from BelW.range HBB.out z 1 _ rfl)
  have b3 := fun z : BelW V => (show z.w.cell? ⟨w.heap.size, 3, none⟩ = some (.slice B n cb) from BelW.range HBB.out z 3 _ rfl)
  have r0 := fun z : BelW V => (show z.w.cell? ⟨w.heap.size + 1, 0, none⟩ = some (.int .i64 id) from BelW.range HBR.out z 0 _ rfl)
  have r1 := fun z : BelW V => (show z.w.cell? ⟨w.heap.size + 1, 1, none⟩ = some (.int .i64 own) from BelW.range HBR.out z 1 _ rfl)
  have r2 := fun z : BelW V => (show z.w.cell? ⟨w.heap.size + 1, 2, none⟩ = some (.int .i64 date) from BelW.range HBR.out z 2 _ rfl)
  have r3 := fun z : BelW V => (show z.w.cell? ⟨w.heap.size + 1, 3, none⟩ = some (.int .i64 pla) from BelW.range HBR.out z 3 _ rfl)
  have r4 := fun z : BelW V => (show z.w.cell? ⟨w.heap.size + 1, 4, none⟩ = some (.int .i64 rate) from BelW.range HBR.out z 4 _ rfl)
  have r5 := fun z : BelW V => (show z.w.cell? ⟨w.heap.size + 1, 5, none⟩ = some (.int .i64 fr) from BelW.range HBR.out z 5 _ rfl)
  have r6 := fun z : BelW V => (show z.w.cell? ⟨w.heap.size + 1, 6, none⟩ = some (.int .i64 un) from BelW.range HBR.out z 6 _ rfl)
  have r7 := fun z : BelW V => (show z.w.cell? ⟨w.heap.size + 1, 7, none⟩ = some (.int .i64 bk) from BelW.range HBR.out z 7 _ rfl)
  have r8 := fun z : BelW V => (show z.w.cell? ⟨w.heap.size + 1, 8, none⟩ = some (.int .i64 bt) from BelW.range HBR.out z 8 _ rfl)
  have CI := Lib.hid (fun (z : BelW V) (i n : Int) => bel_of (x := z) (index_ex i n z.w))
  have CM := Lib.hid (fun (z : BelW V) (n : Int) => bel_of (x := z) (monthday_ex n z.w (HMV.out z)))
  have HG := Lib.hid (fun (z : BelW V) => (show Below w.heap.size w z.w from below_next HB0.out z.2))
  clear HBB HBR
  go_wp2_with (first | (go_at_call 50; (with_reducible refine (CI.out _ _ _).mono ?_); rintro e w1 ⟨rfl, z, rfl⟩; generalize hq : ixF _ _ = b; cases b) | (go_at_call 51; (with_reducible refine (CM.out _ _).mono ?_); rintro e w1 ⟨rfl, z, rfl⟩; generalize hq : mdF _ = b; cases b))
  all_goals go_ret
  all_goals (refine ⟨?_, HG.out _⟩; clear CI CM HG HB0 HMV HM b1 b3 r0 r1 r2 r3 r4 r5 r6 r7 r8; simp_all [rightF] <;> first | omega | rfl)
end Go.Proofs.YtngjakahanmepaaGreatDoor
namespace Go.Proofs.YtngjakahanmepaaGreatDoor
open Go.RowKit
set_option linter.unusedVariables false
set_option linter.unusedSimpArgs false
def inB (n lo hi : Int) : Bool := decide (lo ≤ n) && decide (n ≤ hi)
set_option maxHeartbeats 4000000 in
theorem in_is (n lo hi : Int) (w : World) : Calls Tryz.prog 74 #[.int .i64 n, .int .i64 lo, .int .i64 hi] w fun e w' => e = .returned (.bool (inB n lo hi)) ∧ Below w.heap.size w w' := by
  unfold inB
  go_enter Tryz.func74, Tryz.ntmps74
  by_cases h1 : lo ≤ n
  · have t1 : decide (lo ≤ n) = true := decide_eq_true h1
    by_cases h2 : n ≤ hi
    · have t2 : decide (n ≤ hi) = true := decide_eq_true h2
      go_wp2_with fail
      go_ret
      exact ⟨by first | rfl | (simp_all [bne]), by go_grown⟩
    · have t2 : decide (n ≤ hi) = false := decide_eq_false h2
      go_wp2_with fail
      go_ret
      exact ⟨by first | rfl | (simp_all [bne]), by go_grown⟩
  · have t1 : decide (lo ≤ n) = false := decide_eq_false h1
    go_wp2_with fail
    go_ret
    exact ⟨by first | rfl | (simp_all [bne]), by go_grown⟩
def volB (n : Int) : Bool := inB n 0 1125899906842624
theorem in_cal {n lo hi : Int} {b : Bool} (h : inB n lo hi = b) (w : World) : Calls Tryz.prog 74 #[.int .i64 n, .int .i64 lo, .int .i64 hi] w fun e w' => e = .returned (.bool b) ∧ Below w.heap.size w w' := h ▸ in_is n lo hi w
set_option maxHeartbeats 4000000 in
theorem volume_is (n : Int) (w : World) : Calls Tryz.prog 75 #[.int .i64 n] w fun e w' => e = .returned (.bool (volB n)) ∧ Below w.heap.size w w' := by
  obtain ⟨b, hb⟩ : ∃ b, volB n = b := ⟨_, rfl⟩
  have HC := Lib.hid (in_cal (show inB n 0 1125899906842624 = b from hb) w)
  rw [hb]
  clear hb
  go_enter Tryz.func75, Tryz.ntmps75
  go_wp2_with (first | (go_at_call 74; (with_reducible refine HC.out.mono ?_); rintro e w1 ⟨rfl, hb⟩))
  go_ret
  exact ⟨rfl, hb⟩
def idxB (i : Int) (n : Nat) : Bool := inB i 0 ((n : Int) - 1)
theorem idxB_iff {i : Int} {n : Nat} : idxB i n = true ↔ 0 ≤ i ∧ i < (n : Int) := by
  unfold idxB inB
  rw [Bool.and_eq_true, decide_eq_true_eq, decide_eq_true_eq]
  omega
set_option maxHeartbeats 4000000 in
theorem bindex_is (i : Int) (n : Nat) (hn : n ≤ 9223372036854775807) (w : World) : Calls Tryz.prog 81 #[.int .i64 i, .int .i64 (n : Int)] w fun e w' => e = .returned (.bool (idxB i n)) ∧ Below w.heap.size w w' := by
  obtain ⟨b, hb⟩ : ∃ b, idxB i n = b := ⟨_, rfl⟩
  have HC := Lib.hid (in_cal (show inB i 0 ((n : Int) - 1) = b from hb) w)
  rw [hb]
  clear hb
  have hw : wrap64 ((n : Int) - 1) = (n : Int) - 1 := by unfold wrap64; omega
  obtain ⟨m, hm⟩ : ∃ m, (n : Int) - 1 = m := ⟨_, rfl⟩
  rw [hm] at HC hw
  go_enter Tryz.func81, Tryz.ntmps81
  go_wp2_with (first | (go_at_call 74; (with_reducible refine HC.out.mono ?_); rintro e w1 ⟨rfl, hb⟩))
  go_ret
  exact ⟨rfl, hb⟩
def fracB (num den : Int) : Bool := volB num && volB den && (!(den == 0) || num == 0)
set_option maxHeartbeats 4000000 in
theorem fraction_is (num den : Int) (w : World) : Calls Tryz.prog 79 #[.int .i64 num, .int .i64 den] w fun e w' => e = .returned (.bool (fracB num den)) ∧ Below w.heap.size w w' := by
  have HV := Lib.hid (fun (y : BelW w) (n : Int) => bel_of (x := y) (volume_is n y.w))
  unfold fracB
  go_enter Tryz.func79, Tryz.ntmps79
  refine wp_rebase _ (fun V hV x0 => ?_)
  subst hV
  go_wp2_with (first | (go_at_call 75; (with_reducible refine (HV.out _ _).mono ?_); rintro e w1 ⟨rfl, z, rfl⟩; generalize hq : volB _ = b; cases b))
  all_goals go_ret
  all_goals (refine ⟨?_, z.2⟩; simp_all)
def targB (n : Nat) (from' to' : Int) : Bool := to' == -1 || idxB to' n && !(to' == from')
set_option maxHeartbeats 4000000 in
theorem target_is (d0 d1 d2 d4 d5 d6 d7 d8 d9 d10 : Value) (B : Option Addr) (n cb : Nat) (hn : n ≤ 9223372036854775807) (from' to' : Int) (w : World) :
    Calls Tryz.prog 80 #[.agg #[d0, d1, d2, .slice B n cb, d4, d5, d6, d7, d8, d9, d10], .int .i64 from', .int .i64 to'] w fun e w' => e = .returned (.bool (targB n from' to')) ∧ Below w.heap.size w w' := by
  unfold targB
  go_enter Tryz.func80, Tryz.ntmps80
  go_upto_region 1 with fail
  refine wp_rebase _ (fun V hV x0 => ?_)
  have HB0 := Lib.hid (show Below w.heap.size w V by rw [hV]; exact bel_alloc (Below.refl _ _) _)
  have HBB := Lib.hid (show V.rangeAt w.heap.size 0 [d0, d1, d2, .slice B n cb, d4, d5, d6, d7, d8, d9, d10] by rw [hV]; exact range_new _ _ [d0, d1, d2, .slice B n cb, d4, d5, d6, d7, d8, d9, d10])
  clear hV
  have b3 := fun z : BelW V => (show z.w.cell? ⟨w.heap.size, 3, none⟩ = some (.slice B n cb) from BelW.range HBB.out z 3 _ rfl)
  have HI := Lib.hid (fun (y : BelW V) => bel_of (x := y) (bindex_is to' n hn y.w))
  have HG := Lib.hid (fun z : BelW V => (show Below w.heap.size w z.w from below_next HB0.out z.2))
  clear HBB
  by_cases h1 : to' = -1
  · have t1 : (to' == -1) = true := beq_iff_eq.2 h1
    clear h1
    go_wp2_with (first | (go_at_call 81; (with_reducible refine (HI.out _).mono ?_); rintro e w1 ⟨rfl, z, rfl⟩; generalize hq : idxB _ _ = b; cases b))
    go_ret
    exact ⟨by first | rfl | (simp_all [bne]), HG.out _⟩
  · have t1 : (to' == -1) = false := beq_eq_false_iff_ne.2 h1
    clear h1
    by_cases h2 : to' = from'
    · have t2 : (to' == from') = true := beq_iff_eq.2 h2
      clear h2
      go_wp2_with (first | (go_at_call 81; (with_reducible refine (HI.out _).mono ?_); rintro e w1 ⟨rfl, z, rfl⟩; generalize hq : idxB _ _ = b; cases b))
      all_goals go_ret
      all_goals exact ⟨by first | rfl | (simp_all [bne]), HG.out _⟩
    · have t2 : (to' == from') = false := beq_eq_false_iff_ne.2 h2
      clear h2
      go_wp2_with (first | (go_at_call 81; (with_reducible refine (HI.out _).mono ?_); rintro e w1 ⟨rfl, z, rfl⟩; generalize hq : idxB _ _ = b; cases b))
      all_goals go_ret
      all_goals exact ⟨by first | rfl | (simp_all [bne]), HG.out _⟩
end Go.Proofs.YtngjakahanmepaaGreatDoor
namespace Go.Proofs.YtngjakahanmepaaGreatDoor
open Go.RowKit
set_option linter.unusedVariables false
set_option linter.unusedSimpArgs false
structure Tw where
  nm : ByteArray
  pla : Int
  flo : Int
  lead : Int
  peo : Int
  wat : Int
  quo : Int
def twc (x : Tw) : List Value := [.string x.nm, .int .i64 x.pla, .int .i64 x.flo, .int .i64 x.lead, .int .i64 x.peo, .int .i64 x.wat, .int .i64 x.quo]
structure Sh where
  nm : ByteArray
  room : Int
def shc (x : Sh) : List Value := [.string x.nm, .int .i64 x.room]
structure Gg where
  nm : ByteArray
  kind : Int
  tgt : Int
  err : Int
  drf : Int
def ggc (x : Gg) : List Value := [.string x.nm, .int .i64 x.kind, .int .i64 x.tgt, .int .i64 x.err, .int .i64 x.drf]
structure Rv where
  nm : ByteArray
  fr : Int
  to' : Int
  hrs : Int
  flow : Int
  by' : Int
  lim : Int
def rvc (x : Rv) : List Value := [.string x.nm, .int .i64 x.fr, .int .i64 x.to', .int .i64 x.hrs, .int .i64 x.flow, .int .i64 x.by', .int .i64 x.lim]
structure Lk where
  nm : ByteArray
  kind : Int
  fr : Int
  to' : Int
  RA : Option Addr
  rc : Nat
  rate : List Sp
  LA : Option Addr
  lc : Nat
  lo : List Sp
  HA : Option Addr
  hc : Nat
  hi : List Sp
  pos : Int
  spd : Int
  leak : Int
  crest : Int
  num : Int
  den : Int
  prime : Int
  brk : Int
  bnum : Int
  bden : Int
  delay : Int
def lkc (x : Lk) : List Value := [.string x.nm, .int .i64 x.kind, .int .i64 x.fr, .int .i64 x.to', .slice x.RA x.rate.length x.rc, .slice x.LA x.lo.length x.lc, .slice x.HA x.hi.length x.hc, .int .i64 x.pos, .int .i64 x.spd, .int .i64 x.leak, .int .i64 x.crest, .int .i64 x.num, .int .i64 x.den, .int .i64 x.prime, .int .i64 x.brk, .int .i64 x.bnum, .int .i64 x.bden, .int .i64 x.delay]
structure Lks (w : World) (A : Option Addr) (l : List Lk) : Prop where
  rd : Rd w A (l.flatMap lkc)
  rate : ∀ x ∈ l, Rd w x.RA (spCells x.rate)
  lo : ∀ x ∈ l, Rd w x.LA (spCells x.lo)
  hi : ∀ x ∈ l, Rd w x.HA (spCells x.hi)
theorem Lks.below {B : Nat} {A : Option Addr} {l : List Lk} {w w' : World} (h : Lks w A l) (hB : w.heap.size ≤ B) (hb : Below B w w') : Lks w' A l :=
  ⟨h.rd.below hB hb, fun x hx => (h.rate x hx).below hB hb, fun x hx => (h.lo x hx).below hB hb, fun x hx => (h.hi x hx).below hB hb⟩
/-- a loop that checks every element -/
def AllR {α : Type} (V : World) (ok : α → Bool) (l : List α) (s : Value) (wr : World) : Prop := ∃ k : Nat, k ≤ l.length ∧ s = .int .i64 (k : Int) ∧ Hid ((l.take k).all ok = true) ∧ ∃ y : BelW V, wr = y.w
theorem all_none {α : Type} (ok : α → Bool) (l : List α) : (l.take 0).all ok = true := by simp
theorem all_next {α : Type} {ok : α → Bool} {l : List α} {k : Nat} (hk : k < l.length) (h : (l.take k).all ok = true) (hx : ok l[k] = true) : (l.take (k + 1)).all ok = true := by
  rw [List.take_succ_eq_append_getElem hk, List.all_append, h]
  simp [hx]
theorem all_bad {α : Type} {ok : α → Bool} {l : List α} {k : Nat} (hk : k < l.length) (hx : ok l[k] = false) : l.all ok = false := by
  rw [List.all_eq_false]
  exact ⟨l[k], List.getElem_mem hk, by simp [hx]⟩
theorem all_end {α : Type} {ok : α → Bool} {l : List α} (h : (l.take l.length).all ok = true) : l.all ok = true := by rwa [List.take_length] at h
end Go.Proofs.YtngjakahanmepaaGreatDoor
namespace Go.Proofs.YtngjakahanmepaaGreatDoor
open Go.RowKit
set_option linter.unusedVariables false
set_option linter.unusedSimpArgs false
def nextB (ps : List Pl) (office to' : Int) : Bool := if to' = -1 then office == 2 else (pl ps to'.toNat).office == office || (pl ps to'.toNat).office == office + 1
set_option maxHeartbeats 8000000 in
theorem next_is (d0 d1 d2 d4 d5 d6 d7 d8 d9 d10 : Value) (B : Option Addr) (cb : Nat) (ps : List Pl) (office to' : Int) (ho : 0 ≤ office ∧ office ≤ 2) (ht : to' = -1 ∨ (0 ≤ to' ∧ to' < (ps.length : Int))) (w : World) (hp : Pls w B ps) :
    Calls Tryz.prog 84 #[.agg #[d0, d1, d2, .slice B ps.length cb, d4, d5, d6, d7, d8, d9, d10], .int .i64 office, .int .i64 to'] w fun e w' => e = .returned (.bool (nextB ps office to')) ∧ Below w.heap.size w w' := by
  go_enter Tryz.func84, Tryz.ntmps84
  go_upto_region 1 with fail
  refine wp_rebase _ (fun V hV x0 => ?_)
  have HB0 := Lib.hid (show Below w.heap.size w V by rw [hV]; exact bel_alloc (Below.refl _ _) _)
  have HBB := Lib.hid (show V.rangeAt w.heap.size 0 [d0, d1, d2, .slice B ps.length cb, d4, d5, d6, d7, d8, d9, d10] by rw [hV]; exact range_new _ _ [d0, d1, d2, .slice B ps.length cb, d4, d5, d6, d7, d8, d9, d10])
  have HP := Lib.hid (hp.below (Nat.le_refl _) (below_next HB0.out x0.2))
  have HG := Lib.hid (show Below w.heap.size w x0.w from below_next HB0.out x0.2)
  clear hV hp
  have b3 : x0.w.cell? ⟨w.heap.size, 3, none⟩ = some (.slice B ps.length cb) := BelW.range HBB.out x0 3 _ rfl
  by_cases h1 : to' = -1
  · have t1 : (to' == -1) = true := beq_iff_eq.2 h1
    have HF := Lib.hid (show nextB ps office to' = (office == 2) by unfold nextB; rw [if_pos h1])
    subst h1
    clear ht t1
    go_wp2_with fail
    go_ret
    exact ⟨by rw [HF.out]; rfl, HG.out⟩
  · have t1 : (to' == -1) = false := beq_eq_false_iff_ne.2 h1
    obtain ⟨k, rfl⟩ : ∃ k : Nat, to' = (k : Int) := ⟨to'.toNat, by omega⟩
    have hk : k < ps.length := by omega
    have HF := Lib.hid (show nextB ps office (k : Int) = ((pl ps k).office == office || (pl ps k).office == office + 1) by unfold nextB; rw [if_neg h1, Int.toNat_natCast])
    obtain ⟨ad, b, o, rfl, -, hE, hrt⟩ := HP.out.at hk
    obtain ⟨X, hX⟩ : ∃ X, pl ps k = X := ⟨_, rfl⟩
    rw [hX] at hrt HF
    have j1 : (0 : Int) ≤ (k : Int) := by omega
    have j2 : (k : Int) < (ps.length : Int) := by omega
    have c2 : x0.w.cell? ⟨b, o + 2, none⟩ = some (.int .i64 X.office) := hrt 2 _ rfl
    clear hrt hX ht
    cases h2 : (X.office == office)
    · go_wp2_with fail
      go_ret
      exact ⟨by rw [HF.out, h2]; first | rfl | (simp; done) | simp_all, HG.out⟩
    · go_wp2_with fail
      go_ret
      exact ⟨by rw [HF.out, h2]; first | rfl | (simp; done) | simp_all, HG.out⟩
end Go.Proofs.YtngjakahanmepaaGreatDoor
namespace Go.Proofs.YtngjakahanmepaaGreatDoor
open Go.RowKit
set_option linter.unusedVariables false
set_option linter.unusedSimpArgs false
def slN (n d : Nat) : Nat := n * 1099511627776 / d + (if n * 1099511627776 % d = 0 then 0 else 1)
def slopeF (num den : Int) : Int := if den = 0 then 0 else if den < num then 1099511627777 else (slN num.toNat den.toNat : Int)
theorem slN_le {n d : Nat} (h : n ≤ d) : slN n d ≤ 1099511627777 := by
  unfold slN
  have : n * 1099511627776 / d ≤ 1099511627776 := Nat.div_le_of_le_mul (by
    calc n * 1099511627776 ≤ d * 1099511627776 := Nat.mul_le_mul_right _ h
      _ = d * 1099511627776 := rfl)
  split <;> omega
theorem slopeF_bd {num den : Int} (h0 : 0 ≤ num) (h1 : 0 ≤ den) : 0 ≤ slopeF num den ∧ slopeF num den ≤ 1099511627777 := by
  unfold slopeF
  split
  · omega
  · split
    · omega
    · have := slN_le (n := num.toNat) (d := den.toNat) (by omega)
      omega
set_option maxHeartbeats 8000000 in
theorem slope_is (num den : Int) (hn : 0 ≤ num ∧ num ≤ 1125899906842624) (hd : 0 ≤ den ∧ den ≤ 1125899906842624) (w : World) :
    Calls Tryz.prog 85 #[.int .i64 num, .int .i64 den] w fun e w' => e = .returned (.int .i64 (slopeF num den)) ∧ Below w.heap.size w w' := by
  by_cases h0 : den = 0
  · have HF : slopeF num den = 0 := by unfold slopeF; rw [if_pos h0]
    rw [HF]
    subst h0
    clear HF hn hd
    go_enter Tryz.func85, Tryz.ntmps85
    go_wp2_with fail
    go_ret
    exact ⟨rfl, by go_grown⟩
  have t0 : (den == 0) = false := beq_eq_false_iff_ne.2 h0
  by_cases h1 : den < num
  · have HF : slopeF num den = 1099511627777 := by unfold slopeF; rw [if_neg h0, if_pos h1]
    rw [HF]
    have t1 : decide (den < num) = true := decide_eq_true h1
    clear HF
    go_enter Tryz.func85, Tryz.ntmps85
    go_wp2_with fail
    go_ret
    exact ⟨rfl, by go_grown⟩
  obtain ⟨a, rfl⟩ : ∃ a : Nat, num = (a : Int) := ⟨num.toNat, by omega⟩
  obtain ⟨b, rfl⟩ : ∃ b : Nat, den = (b : Int) := ⟨den.toNat, by omega⟩
  have HF : slopeF (a : Int) (b : Int) = (slN a b : Int) := by unfold slopeF; rw [if_neg h0, if_neg h1, Int.toNat_natCast, Int.toNat_natCast]
  rw [HF]
  clear HF
  have t1 : decide ((b : Int) < (a : Int)) = false := decide_eq_false h1
  have hab : a ≤ b := by omega
  have hsl := slN_le hab
  unfold slN at hsl ⊢
  have cm := mul64_any a 1099511627776 (by omega) (by omega)
  have hdm := Nat.div_add_mod' (a * 1099511627776) 18446744073709551616
  have hlo := Nat.mod_lt (a * 1099511627776) (show 0 < 18446744073709551616 by omega)
  have hb1 : a * 1099511627776 / b ≤ 1099511627776 := Nat.div_le_of_le_mul (Nat.mul_le_mul_right _ hab)
  have cd := div64_any (a * 1099511627776 / 18446744073709551616) (a * 1099511627776 % 18446744073709551616) b hlo (by omega) (by omega)
  rw [hdm] at cd
  have hrb := Nat.mod_lt (a * 1099511627776) (show 0 < b by omega)
  have hhi : a * 1099511627776 / 18446744073709551616 < 18446744073709551616 := by omega
  clear hdm
  generalize a * 1099511627776 / 18446744073709551616 = hi at *
  generalize a * 1099511627776 % 18446744073709551616 = lo at *
  generalize a * 1099511627776 / b = q at *
  generalize a * 1099511627776 % b = r at *
  have CM := Lib.hid (fun w => (show Calls Tryz.prog 111 #[.int .u64 (a : Int), .int .u64 1099511627776] w fun e w' => e = .returned (.tuple #[.int .u64 (hi : Int), .int .u64 (lo : Int)]) ∧ w = w' from cm w))
  have CD := Lib.hid cd
  clear cm cd hb1 hab
  by_cases hr0 : r = 0
  · have t2 : ((r : Int) != 0) = false := bne_eq_false_iff_eq.2 (by omega)
    rw [if_pos hr0] at hsl ⊢
    clear hr0
    go_enter Tryz.func85, Tryz.ntmps85
    go_wp2_with (first
      | (go_at_call 111; (with_reducible refine (CM.out _).mono ?_); rintro e w1 ⟨rfl, rfl⟩)
      | (go_at_call 112; (with_reducible refine (CD.out _).mono ?_); rintro e w1 ⟨rfl, nn, rfl⟩))
    go_ret
    exact ⟨rfl, below_of_drewN _ _⟩
  · have t2 : ((r : Int) != 0) = true := bne_iff_ne.2 (by omega)
    rw [if_neg hr0] at hsl ⊢
    clear hr0
    go_enter Tryz.func85, Tryz.ntmps85
    go_wp2_with (first
      | (go_at_call 111; (with_reducible refine (CM.out _).mono ?_); rintro e w1 ⟨rfl, rfl⟩)
      | (go_at_call 112; (with_reducible refine (CD.out _).mono ?_); rintro e w1 ⟨rfl, nn, rfl⟩))
    go_ret
    exact ⟨by simp, below_of_drewN _ _⟩
end Go.Proofs.YtngjakahanmepaaGreatDoor
