/- bournelaw18.small. -/
import Derived.Test.YthbjechgdjcogaaRDue
import Derived.Test.YthbjechgdjcogaaRoute
namespace Go.Proofs.Ythbjechgdjcogaa
open Go.RowKit
set_option linter.unusedVariables false
set_option linter.unusedSimpArgs false

theorem ints_rd_new (w : World) (l : List Int) (t : TypeId) : Rd (w.alloc (.cells (ints l).toArray t)) (some ⟨w.heap.size, 0, none⟩) (ints l) := fun _ => by
  refine ⟨⟨w.heap.size, 0, none⟩, rfl, by rw [World.size_alloc]; exact Nat.lt_succ_self _, fun j u hu => ?_⟩
  exact World.news_of_block (cs := (ints l).toArray) (t := t) (fr := (0, 0)) (heap_alloc_new w _) j u (by simpa using hu)
theorem rd_new (w : World) (l : List Value) (t : TypeId) : Rd (w.alloc (.cells l.toArray t)) (some ⟨w.heap.size, 0, none⟩) l := fun _ => by
  refine ⟨⟨w.heap.size, 0, none⟩, rfl, by rw [World.size_alloc]; exact Nat.lt_succ_self _, fun j u hu => ?_⟩
  exact World.news_of_block (cs := l.toArray) (t := t) (fr := (0, 0)) (heap_alloc_new w _) j u (by simpa using hu)
theorem fits_dec {p : List Int} (h : p.all (fun v => decide (-9223372036854775808 ≤ v ∧ v ≤ 9223372036854775807)) = true) : ∀ i, i < p.length → Fit (gi p i) := fun i hi => by
  have e := gi_at hi
  have := List.all_eq_true.1 h (gi p i) (List.mem_of_getElem? e)
  simpa [Fit] using this
def plv : List Value := [.string ⟨#[]⟩, .int .i64 0, .int .i64 0, .int .i64 0, .slice none 0 0, .slice none 0 0, .int .i64 1, .int .i64 3, .int .i64 0, .int .i64 0, .int .i64 0, .slice none 0 0]
theorem push_nil (B : Option Addr) (cb : Nat) (p : List Int) (n : Nat) (t pl : Int) (hp : p.length = n) (hn : n ≤ 1000) (hB : B = none → cb = 0) (ht : Fit t) (hpl : Fit pl) (hfp : ∀ i, i < p.length → Fit (gi p i)) (w : World) (hr : Rd w B (ints p)) :
    Calls Try.prog 13 #[.slice none 0 0, .int .i64 t, .int .i64 pl, .slice B n cb] w (QPost (pushK [] t pl p) w) := by
  subst hp
  exact push_any none B 0 cb [] p t pl (by simp) hn (fun _ => rfl) hB (by simp) (by omega) (fun x hx => by cases hx) ht hpl hfp w (Qu.nil _ _) hr
theorem ldok {h p : Int} {A : Option Addr} {c : Nat} {l : List Int} (h1 : Fit h) (h2 : Fit p) (h3 : l.length ≤ 1000) (h4 : l.all (fun v => decide (-9223372036854775808 ≤ v ∧ v ≤ 9223372036854775807)) = true) (h5 : A = none → c = 0) : LdOk ⟨h, p, A, c, l⟩ ∧ ((⟨h, p, A, c, l⟩ : Ld).A = none → (⟨h, p, A, c, l⟩ : Ld).c = 0) :=
  ⟨⟨h1, h2, by show l.length ≤ maxLen; unfold maxLen; omega, fits_dec h4⟩, h5⟩
def BelW.al {V : World} (y : BelW V) (o : Obj) : BelW V := ⟨y.w.alloc o, bel_alloc y.2 o⟩
theorem BelW.al_w {V : World} (y : BelW V) (o : Obj) : (y.al o).w = y.w.alloc o := rfl
theorem add_zero' (a : Addr) : a.add 0 = a := by unfold Addr.add; simp
theorem Rd.shift {w : World} {ad : Addr} {xs ys : List Value} (h : Rd w (some ad) (xs ++ ys)) : Rd w (some (ad.add xs.length)) ys := fun h0 => by
  obtain ⟨ad', e, hb, hc⟩ := h (by rw [List.length_append]; omega)
  cases e
  refine ⟨_, rfl, by rw [add_block]; exact hb, fun j u hu => ?_⟩
  have e2 : (ad.add xs.length).add j = ad.add (xs.length + j) := by
    unfold Addr.add
    by_cases hi : xs.length = 0 <;> by_cases hj : j = 0 <;> simp [hi, hj, Nat.add_assoc]
  rw [e2]
  refine hc _ _ ?_
  rw [List.getElem?_append_right (by omega), show xs.length + j - xs.length = j by omega]
  exact hu
theorem push_zero : pushK [] 5 2 [0, 0] = [] := by
  unfold pushK
  rw [if_neg]
  rintro ⟨_, h⟩
  obtain ⟨j, hj, hp⟩ := anyB_iff.1 h
  have h01 : j = 0 ∨ j = 1 := by simp at hj; omega
  rcases h01 with rfl | rfl <;> exact absurd hp (by decide)
theorem keys_nil {l : List Ld} (h : keys l = []) : l = [] := by simpa [keys] using h
theorem keys_one {l : List Ld} {a b : Int} {p : List Int} (h : keys l = [(a, b, p)]) : ∃ A c, l = [⟨a, b, A, c, p⟩] := by
  cases l with
  | nil => simp [keys] at h
  | cons x l =>
    cases l with
    | cons y l => simp [keys] at h
    | nil =>
      simp [keys, Ld.key] at h
      obtain ⟨rfl, rfl, rfl⟩ := h
      exact ⟨x.A, x.c, rfl⟩
theorem parts_one {l : List Rw} {p : List Int} (h : parts l = [p]) : ∃ A c, l = [⟨A, c, p⟩] := by
  cases l with
  | nil => simp [parts] at h
  | cons x l =>
    cases l with
    | cons y l => simp [parts] at h
    | nil =>
      simp [parts] at h
      subst h
      exact ⟨x.A, x.c, rfl⟩

set_option maxHeartbeats 16000000 in
set_option maxRecDepth 100000 in
theorem small_any (w : World) : Calls Try.prog 8 #[] w fun e w' => e = .returned (.bool true) ∧ Below w.heap.size w w' := by
  go_enter Try.func8, Try.ntmps8
  go_upto_region 2 with fail
  refine wp_rebase _ (fun V hV x0 => ?_)
  have HB0 := Lib.hid (show Below w.heap.size w V by rw [hV]; exact bel_alloc (Below.refl _ _) _)
  have HR1 := Lib.hid (show V.rangeAt w.heap.size 0 plv by rw [hV]; exact range_new w _ plv)
  clear hV
  have R1 := Lib.hid (fun y : BelW V => bel_of (x := y) (v := .tuple #[.int .i64 3, .int .i64 1]) (by have h := route_any (.string ⟨#[]⟩) (.int .i64 0) (.int .i64 0) (.int .i64 0) (.slice none 0 0) (.slice none 0 0) (.int .i64 0) (.int .i64 0) (.int .i64 0) (.slice none 0 0) 1 3 10 0 y.w; rw [show routeF 1 3 10 0 = (3, 1) by decide] at h; exact h))
  have R2 := Lib.hid (fun y : BelW V => bel_of (x := y) (v := .tuple #[.int .i64 3, .int .i64 2]) (by have h := route_any (.string ⟨#[]⟩) (.int .i64 0) (.int .i64 0) (.int .i64 0) (.slice none 0 0) (.slice none 0 0) (.int .i64 0) (.int .i64 0) (.int .i64 0) (.slice none 0 0) 1 3 10 1 y.w; rw [show routeF 1 3 10 1 = (3, 2) by decide] at h; exact h))
  have R3 := Lib.hid (fun y : BelW V => bel_of (x := y) (v := .tuple #[.int .i64 4, .int .i64 0]) (by have h := route_any (.string ⟨#[]⟩) (.int .i64 0) (.int .i64 0) (.int .i64 0) (.slice none 0 0) (.slice none 0 0) (.int .i64 0) (.int .i64 0) (.int .i64 0) (.slice none 0 0) 1 3 10 2 y.w; rw [show routeF 1 3 10 2 = (4, 0) by decide] at h; exact h))
  go_upto_region 5 with (first
    | (with_reducible refine wpList_load_g 40 _ (by with_reducible rfl) _ _ (by with_unfolding_all rfl) (by with_unfolding_all rfl) _ _ (BelW.range HR1.out _) Try.underlying40 (by with_unfolding_all rfl) (by kernel_rfl) ?_; simp only [plv])
    | (go_at_call 10; with_reducible refine (R1.out _).mono ?_; rintro e w' ⟨rfl, y, rfl⟩)
    | (go_at_call 10; with_reducible refine (R2.out _).mono ?_; rintro e w' ⟨rfl, y, rfl⟩)
    | (go_at_call 10; with_reducible refine (R3.out _).mono ?_; rintro e w' ⟨rfl, y, rfl⟩))
  clear R1 R2 R3 HR1
  have P1 := Lib.hid (push_nil (some ⟨y.w.heap.size, 0, none⟩) 2 [0, 3] 2 5 2 rfl (by decide) (fun h => by cases h) (by unfold Fit; decide) (by unfold Fit; decide) (fits_dec (by decide)) _ (ints_rd_new y.w [0, 3] 3))
  rw [show pushK [] 5 2 [0, 3] = [(5, 2, [0, 3])] by unfold pushK; rw [if_pos ⟨by decide, anyB_iff.2 ⟨1, by decide, by decide⟩⟩]; rfl] at P1
  go_wp2_with fail
  refine P1.out.mono ?_
  rintro e w1 ⟨A1, c1, l1, rfl, hk1, hok1, hA1, hc1, hq1, hb1⟩
  obtain ⟨PA1, pc1, rfl⟩ := keys_one hk1
  have HB1 := Lib.hid (below_next (below_next HB0.out (bel_alloc y.2 _)) hb1)
  have HQ1 := Lib.hid hq1
  clear hk1 hok1 hA1 hq1 hb1 P1
  go_upto_region 6 with fail
  have P2 := Lib.hid (push_nil (some ⟨w1.heap.size, 0, none⟩) 2 [0, 0] 2 5 2 rfl (by decide) (fun h => by cases h) (by unfold Fit; decide) (by unfold Fit; decide) (fits_dec (by decide)) _ (ints_rd_new w1 [0, 0] 3))
  rw [push_zero] at P2
  go_wp2_with fail
  refine P2.out.mono ?_
  rintro e w2 ⟨A2, c2, l2, rfl, hk2, hok2, hA2, hc2, hq2, hb2⟩
  obtain rfl := keys_nil hk2
  have hb2' := below_next (bel_alloc (Below.refl w1.heap.size w1) _) hb2
  have HB2 := Lib.hid (below_next HB1.out hb2')
  have HQ2 := Lib.hid (HQ1.out.below (Nat.le_refl _) hb2')
  clear hk2 hok2 hA2 hq2 hb2 hb2' P2 HQ1 HB1
  go_upto_region 8 with fail
  refine wp_named _ (fun w3 h3 => ?_)
  obtain ⟨g0, hg0⟩ : ∃ g, w2.heap.size = g := ⟨_, rfl⟩
  have hq3 : Qu w3 (some ⟨w2.heap.size + 1 + 1, 0, none⟩) [⟨4, 0, some ⟨w2.heap.size, 0, none⟩, 2, [1, 2]⟩, ⟨6, 0, some ⟨w2.heap.size + 1, 0, none⟩, 2, [5, 0]⟩] := by
    rw [h3]
    have h := rd_new ((w2.alloc (.cells #[.int .i64 1, .int .i64 2] 3)).alloc (.cells #[.int .i64 5, .int .i64 0] 3)) (ldCells [⟨4, 0, some ⟨w2.heap.size, 0, none⟩, 2, [1, 2]⟩, ⟨6, 0, some ⟨w2.heap.size + 1, 0, none⟩, 2, [5, 0]⟩]) 53
    have h5 := ints_rd_new (w2.alloc (.cells #[.int .i64 1, .int .i64 2] 3)) [5, 0] 3
    rw [World.size_alloc, World.size_alloc] at h
    rw [World.size_alloc] at h5
    refine ⟨h, fun x hx => ?_⟩
    rcases List.mem_cons.1 hx with rfl | hx
    · exact ((ints_rd_new w2 [1, 2] 3).alloc _).alloc _
    · rw [List.mem_singleton.1 hx]; exact h5.alloc _
  have HB3 := Lib.hid (below_next HB2.out (show Below w2.heap.size w2 w3 by rw [h3]; exact bel_alloc (bel_alloc (bel_alloc (Below.refl _ _) _) _) _))
  have HQ3 := Lib.hid (HQ2.out.below (Nat.le_refl _) (show Below w2.heap.size w2 w3 by rw [h3]; exact bel_alloc (bel_alloc (bel_alloc (Below.refl _ _) _) _) _))
  have D1 : Calls Try.prog 17 #[.slice (some ⟨w2.heap.size + 1 + 1, 0, none⟩) 2 2, .int .i64 5, .int .i64 1, .int .i64 2] w3 (DuePost 2 1 5 ((1 : Nat) : Int) [(4, 0, [1, 2]), (6, 0, [5, 0])] w3) :=
    due_any (some ⟨w2.heap.size + 1 + 1, 0, none⟩) 2 [⟨4, 0, some ⟨w2.heap.size, 0, none⟩, 2, [1, 2]⟩, ⟨6, 0, some ⟨w2.heap.size + 1, 0, none⟩, 2, [5, 0]⟩] 5 1 2 (by simp) (by simp) (fun h => by cases h) (by simp) (by omega)
      (fun x hx => by
        rcases List.mem_cons.1 hx with rfl | hx
        · exact ldok (by unfold Fit; decide) (by unfold Fit; decide) (by decide) (by decide) (fun h => by cases h)
        · rw [List.mem_singleton.1 hx]
          exact ldok (by unfold Fit; decide) (by unfold Fit; decide) (by decide) (by decide) (fun h => by cases h)) 1 2 (by decide) (by decide) w3 hq3
  have D1 := Lib.hid D1
  have HQQ := Lib.hid hq3
  clear h3 hq3 HQ2 HB2 hg0
  go_wp2_with fail
  refine D1.out.mono ?_
  rintro e w4 ⟨A4, c4, B4, d4, rows, l4, rfl, hPc, hparts, hkeys, hok4, hB4, hl4, hrows, hmx, hqu, hb4⟩
  obtain ⟨RA, rc, rfl⟩ := parts_one (p := [1, 2]) (hparts.trans (by decide))
  obtain ⟨LA, lc, rfl⟩ := keys_one (a := 6) (b := 0) (p := [5, 0]) (hkeys.trans (by decide))
  have HB4 := Lib.hid (below_next HB3.out hb4)
  have HQ4 := Lib.hid (HQ3.out.below (Nat.le_refl _) hb4)
  have HQQ4 := Lib.hid (HQQ.out.below (Nat.le_refl _) hb4)
  have HMX := Lib.hid hmx
  have HQU := Lib.hid (And.intro hok4 hqu)
  clear hPc hparts hkeys hok4 hB4 hl4 hrows hmx hqu hb4 HB3 HQ3 HQQ D1
  go_upto_region 12 with fail
  refine wp_rebase _ (fun U hU z0 => ?_)
  have hbU : Below w4.heap.size w4 U := by rw [hU]; exact bel_alloc (bel_alloc (Below.refl _ _) _) _
  have HBU := Lib.hid (below_next HB4.out hbU)
  have hpl : Rd U (some ⟨w4.heap.size, 0, none⟩) (plCells [⟨.string ⟨#[]⟩, .int .i64 0, 1, .int .i64 0, .slice none 0 0, .slice none 0 0, 0, 0, .int .i64 0, .int .i64 0, .int .i64 0, .slice none 0 0⟩]) := by
    rw [hU]; exact (rd_new w4 _ _).alloc _
  have HBX := Lib.hid (show U.rangeAt (w4.heap.size + 1) 0 [.string ⟨#[]⟩, .slice none 0 0, .int .i64 0, .slice (some ⟨w4.heap.size, 0, none⟩) 1 1, .slice none 0 0, .slice none 0 0, .slice none 0 0, .slice none 0 0, .slice none 0 0, .slice none 0 0, .int .i64 0] by
    rw [hU]
    have := range_new (w4.alloc (.cells (plCells [⟨.string ⟨#[]⟩, .int .i64 0, 1, .int .i64 0, .slice none 0 0, .slice none 0 0, 0, 0, .int .i64 0, .int .i64 0, .int .i64 0, .slice none 0 0⟩]).toArray 40)) 31 [.string ⟨#[]⟩, .slice none 0 0, .int .i64 0, .slice (some ⟨w4.heap.size, 0, none⟩) 1 1, .slice none 0 0, .slice none 0 0, .slice none 0 0, .slice none 0 0, .slice none 0 0, .slice none 0 0, .int .i64 0]
    rw [World.size_alloc] at this
    exact this)
  have HQ5 := Lib.hid (HQ4.out.below (Nat.le_refl _) hbU)
  have HQQ5 := Lib.hid (HQQ4.out.below (Nat.le_refl _) hbU)
  have HMX5 := Lib.hid (HMX.out.below (Nat.le_refl _) hbU)
  have HQU5 := Lib.hid (And.intro HQU.out.1 (HQU.out.2.below (Nat.le_refl _) hbU))
  clear hU hbU HQ4 HQQ4 HMX HQU HB4
  obtain ⟨ad, rfl, _, e1, e2, e3, e4⟩ := HQ5.out.at (k := 0) (by simp)
  obtain ⟨bd, rfl, _, f3, f4⟩ := HMX5.out.at (k := 0) (by simp)
  simp only [Nat.zero_mul, add_zero', List.getElem_cons_zero] at e1 e2 e3 e4 f3 f4
  have r1 := fun z : BelW U => BelW.cells e1 z
  have r2 := fun z : BelW U => BelW.cells e2 z
  have r3 := fun z : BelW U => BelW.cells e3 z
  have r4 := fun z : BelW U => BelW.cells f3 z
  have S1 := Lib.hid (show ∀ y : BelW U, Calls Try.prog 24 #[.slice PA1 2 pc1, .slice (some ⟨y.w.heap.size, 0, none⟩) 2 2] (y.w.alloc (.cells #[.int .i64 0, .int .i64 3] 3)) fun e w' => e = .returned (.bool true) ∧ ∃ z : BelW U, w' = z.w from
    fun y => bel_of (x := y.al _) (lawi_any PA1 _ pc1 2 [0, 3] 2 rfl (by decide) _ ((e4.bel y).alloc _) (ints_rd_new y.w [0, 3] 3)))
  have S2 := Lib.hid (show ∀ y : BelW U, Calls Try.prog 24 #[.slice RA 2 rc, .slice (some ⟨y.w.heap.size, 0, none⟩) 2 2] (y.w.alloc (.cells #[.int .i64 1, .int .i64 2] 3)) fun e w' => e = .returned (.bool true) ∧ ∃ z : BelW U, w' = z.w from
    fun y => bel_of (x := y.al _) (lawi_any RA _ rc 2 [1, 2] 2 rfl (by decide) _ ((f4.bel y).alloc _) (ints_rd_new y.w [1, 2] 3)))
  have hsh : Qu U (some ⟨w2.heap.size + 1 + 1, 3, none⟩) [⟨6, 0, some ⟨w2.heap.size + 1, 0, none⟩, 2, [5, 0]⟩] := by
    have h := Rd.shift (xs := ldc ⟨4, 0, some ⟨w2.heap.size, 0, none⟩, 2, [1, 2]⟩) (ys := ldc ⟨6, 0, some ⟨w2.heap.size + 1, 0, none⟩, 2, [5, 0]⟩) HQQ5.out.rd
    exact ⟨by simpa [ldCells, Addr.add_mid, ldc] using h, fun x hx => HQQ5.out.parts x (List.mem_cons_of_mem _ hx)⟩
  have S3 := Lib.hid (show ∀ y : BelW U, Calls Try.prog 22 #[.slice B4 1 d4, .slice (some ⟨w2.heap.size + 1 + 1, 3, none⟩) 1 1] y.w fun e w' => e = .returned (.bool true) ∧ ∃ z : BelW U, w' = z.w from
    fun y => bel_of (x := y) (lawl_any B4 _ d4 1 [⟨6, 0, LA, lc, [5, 0]⟩] [⟨6, 0, some ⟨w2.heap.size + 1, 0, none⟩, 2, [5, 0]⟩] 1 1 rfl rfl (by decide) HQU5.out.1 rfl y.w (HQU5.out.2.bel y) (hsh.bel y)))
  have hokq : QOk [⟨4, 0, some ⟨w2.heap.size, 0, none⟩, 2, [1, 2]⟩, ⟨6, 0, some ⟨w2.heap.size + 1, 0, none⟩, 2, [5, 0]⟩] := fun x hx => by
    rcases List.mem_cons.1 hx with rfl | hx
    · exact ldok (by unfold Fit; decide) (by unfold Fit; decide) (by decide) (by decide) (fun h => by cases h)
    · rw [List.mem_singleton.1 hx]
      exact ldok (by unfold Fit; decide) (by unfold Fit; decide) (by decide) (by decide) (fun h => by cases h)
  have U0 := fun (o : Int) (y : BelW U) => under_any (some ⟨w2.heap.size + 1 + 1, 0, none⟩) (some ⟨w4.heap.size, 0, none⟩) 2 1 [⟨4, 0, some ⟨w2.heap.size, 0, none⟩, 2, [1, 2]⟩, ⟨6, 0, some ⟨w2.heap.size + 1, 0, none⟩, 2, [5, 0]⟩] [⟨.string ⟨#[]⟩, .int .i64 0, 1, .int .i64 0, .slice none 0 0, .slice none 0 0, 0, 0, .int .i64 0, .int .i64 0, .int .i64 0, .slice none 0 0⟩] (.string ⟨#[]⟩) (.slice none 0 0) (.int .i64 0) (.slice none 0 0) (.slice none 0 0) (.slice none 0 0) (.slice none 0 0) (.slice none 0 0) (.slice none 0 0) (.int .i64 0) o (by simp) (by simp) (by simp) hokq y.w (HQQ5.out.bel y) (hpl.bel y)
  have S4 := Lib.hid (show ∀ y : BelW U, Calls Try.prog 15 #[.slice (some ⟨w2.heap.size + 1 + 1, 0, none⟩) 2 2, .agg #[.string ⟨#[]⟩, .slice none 0 0, .int .i64 0, .slice (some ⟨w4.heap.size, 0, none⟩) 1 1, .slice none 0 0, .slice none 0 0, .slice none 0 0, .slice none 0 0, .slice none 0 0, .slice none 0 0, .int .i64 0], .int .i64 1] y.w fun e w' => e = .returned (.int .i64 8) ∧ ∃ z : BelW U, w' = z.w from
    fun y => bel_of (x := y) (by have h := U0 1 y; rw [show undK (offs [⟨.string ⟨#[]⟩, .int .i64 0, 1, .int .i64 0, .slice none 0 0, .slice none 0 0, 0, 0, .int .i64 0, .int .i64 0, .int .i64 0, .slice none 0 0⟩]) 1 (keys [⟨4, 0, some ⟨w2.heap.size, 0, none⟩, 2, [1, 2]⟩, ⟨6, 0, some ⟨w2.heap.size + 1, 0, none⟩, 2, [5, 0]⟩]) = 8 from (show undK [1] 1 [(4, 0, [1, 2]), (6, 0, [5, 0])] = 8 by decide)] at h; exact h))
  have S5 := Lib.hid (show ∀ y : BelW U, Calls Try.prog 15 #[.slice (some ⟨w2.heap.size + 1 + 1, 0, none⟩) 2 2, .agg #[.string ⟨#[]⟩, .slice none 0 0, .int .i64 0, .slice (some ⟨w4.heap.size, 0, none⟩) 1 1, .slice none 0 0, .slice none 0 0, .slice none 0 0, .slice none 0 0, .slice none 0 0, .slice none 0 0, .int .i64 0], .int .i64 0] y.w fun e w' => e = .returned (.int .i64 0) ∧ ∃ z : BelW U, w' = z.w from
    fun y => bel_of (x := y) (by have h := U0 0 y; rw [show undK (offs [⟨.string ⟨#[]⟩, .int .i64 0, 1, .int .i64 0, .slice none 0 0, .slice none 0 0, 0, 0, .int .i64 0, .int .i64 0, .int .i64 0, .slice none 0 0⟩]) 0 (keys [⟨4, 0, some ⟨w2.heap.size, 0, none⟩, 2, [1, 2]⟩, ⟨6, 0, some ⟨w2.heap.size + 1, 0, none⟩, 2, [5, 0]⟩]) = 0 from (show undK [1] 0 [(4, 0, [1, 2]), (6, 0, [5, 0])] = 0 by decide)] at h; exact h))
  clear e1 e2 e3 e4 f3 f4 hsh hokq U0 hpl HQ5 HQQ5 HMX5 HQU5 hc1 hc2
  go_wp2_with (first
    | (with_reducible refine wpList_load_g 31 _ (by with_reducible rfl) _ _ (by with_unfolding_all rfl) (by with_unfolding_all rfl) _ _ (BelW.range HBX.out _) Try.underlying31 (by with_unfolding_all rfl) (by kernel_rfl) ?_)
    | (go_at_call 24; with_reducible refine (S1.out _).mono ?_; rintro e w' ⟨rfl, y, rfl⟩)
    | (go_at_call 24; with_reducible refine (S2.out _).mono ?_; rintro e w' ⟨rfl, y, rfl⟩)
    | (go_at_call 22; with_reducible refine (S3.out _).mono ?_; rintro e w' ⟨rfl, y, rfl⟩)
    | (go_at_call 15; with_reducible refine (S4.out _).mono ?_; rintro e w' ⟨rfl, y, rfl⟩)
    | (go_at_call 15; with_reducible refine (S5.out _).mono ?_; rintro e w' ⟨rfl, y, rfl⟩))
  go_ret
  exact ⟨rfl, below_next HBU.out (BelW.below6 _)⟩

end Go.Proofs.Ythbjechgdjcogaa
