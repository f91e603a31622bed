/- Part 33 of the proof of TopRights: basin.Right, whole; tiny. A basin and deals that came in. Printed by wip/tools/mkopn.py. -/
import Derived.Test.YtngjakahanmepaaGreatDoorM27
import Derived.Test.YtngjakahanmepaaGreatDoorM29
import Derived.Test.YtngjakahanmepaaGreatDoorM21
import Derived.Test.YtngjakahanmepaaGreatDoorM32
import Derived.Test.YtngjakahanmepaaGreatDoorM10
namespace Go.Proofs.YtngjakahanmepaaGreatDoor
open Go.RowKit
set_option linter.unusedVariables false
set_option linter.unusedSimpArgs false
theorem volB_iff {x : Int} : volB x = true ↔ Vo x := by unfold volB Vo; exact inB_iff
theorem fracB_vo {a b : Int} (h : fracB a b = true) : Vo a ∧ Vo b := by
  unfold fracB at h
  rw [Bool.and_eq_true, Bool.and_eq_true] at h
  exact ⟨volB_iff.1 h.1.1, volB_iff.1 h.1.2⟩
theorem den_vo {b : Int} (h : inB b 1 1125899906842624 = true) : Vo b := by
  have := inB_iff.1 h
  unfold Vo
  omega
theorem targB_of {n : Nat} {f t : Int} (h : targB n f t = true) : t = -1 ∨ (0 ≤ t ∧ t < (n : Int)) := by
  unfold targB at h
  rw [Bool.or_eq_true, Bool.and_eq_true, beq_iff_eq] at h
  rcases h with h | h
  · exact .inl h
  · exact .inr (idxB_iff.1 h.1)
theorem linkB_ok {n : Nat} {l : Lk} (h : linkB n l = true) : LkSl n l := by
  unfold linkB at h
  simp only [Bool.and_eq_true] at h
  obtain ⟨⟨⟨⟨⟨h1, h2⟩, h3⟩, h4⟩, h5⟩, h6⟩ := h
  refine ⟨⟨idxB_iff.1 h2, targB_of h3, fun hk => ?_⟩, fun hk => ?_, fun hk => ?_, fun hk => ?_⟩
  · unfold fieldsB at h5
    rw [if_neg (by omega), if_neg (by omega), if_neg (by omega), if_neg (by omega)] at h5
    simp only [Bool.and_eq_true, Bool.not_eq_true', beq_eq_false_iff_ne] at h5
    exact h5.2
  · unfold fieldsB at h5
    rw [if_pos hk] at h5
    simp only [Bool.and_eq_true] at h5
    obtain ⟨⟨⟨⟨⟨⟨⟨⟨⟨a1, a2⟩, a3⟩, a4⟩, a5⟩, a6⟩, a7⟩, a8⟩, a9⟩, a10⟩ := h5
    exact ⟨⟨rightB_iff.1 a1, rightB_iff.1 a2, rightB_iff.1 a3⟩, fracB_vo a9⟩
  · unfold fieldsB at h5
    by_cases h3' : l.kind = 3
    · rw [if_neg (by omega), if_neg (by omega), if_neg (by omega), if_pos h3'] at h5
      simp only [Bool.and_eq_true] at h5
      exact ⟨volB_iff.1 h5.1.1.1.1, den_vo h5.1.1.1.2⟩
    · rw [if_neg (by omega), if_pos (by omega)] at h5
      simp only [Bool.and_eq_true] at h5
      exact ⟨volB_iff.1 h5.1.2, den_vo h5.2⟩
  · unfold fieldsB at h5
    rw [if_neg (by omega), if_neg (by omega), if_neg (by omega), if_neg (by omega)] at h5
    simp only [Bool.and_eq_true] at h5
    exact ⟨⟨volB_iff.1 h5.1.1.1, den_vo h5.1.1.2⟩, fracB_vo h5.1.2⟩
theorem placeB_ok {n on i : Nat} {cells : Int} {p : Pl} (h : placeB n on cells i p = true) : PlOk n p ∧ Vo p.num ∧ Vo p.den := by
  unfold placeB at h
  simp only [Bool.and_eq_true] at h
  obtain ⟨⟨⟨⟨⟨⟨⟨⟨⟨⟨a1, a2⟩, a3⟩, a4⟩, a5⟩, a6⟩, a7⟩, a8⟩, a9⟩, a10⟩, a11⟩ := h
  exact ⟨⟨inB_iff.1 a2, targB_of a9⟩, fracB_vo a8⟩
theorem placesB_ok {on : Nat} {cells : Int} {ps : List Pl} (h : placesB on cells ps = true) : ∀ p ∈ ps, PlOk ps.length p ∧ Vo p.num ∧ Vo p.den := fun p hp => by
  obtain ⟨k, hk, rfl⟩ := List.mem_iff_getElem.1 hp
  unfold placesB at h
  rw [Bool.and_eq_true] at h
  exact placeB_ok (placeGo_get hk h.1)
structure BasOk (nm : ByteArray) (OA B LA TA GA RDA SA MA : Option Addr) (os : List ByteArray) (ps : List Pl) (ls : List Lk) (ts : List Tw) (gs' : List Gg) (rs : List Rv) (ss : List Sh) (room : List Int) : Prop where
  nmz : nm.size ≤ 9223372036854775807
  oz : ∀ x ∈ os, x.size ≤ 9223372036854775807
  pz : ∀ x ∈ ps, x.nm.size ≤ 9223372036854775807
  lz : ∀ x ∈ ls, x.nm.size ≤ 9223372036854775807
  tz : ∀ x ∈ ts, x.nm.size ≤ 9223372036854775807
  sz : ∀ x ∈ ss, x.nm.size ≤ 9223372036854775807
  gz : ∀ x ∈ gs', x.nm.size ≤ 9223372036854775807
  rz : ∀ x ∈ rs, x.nm.size ≤ 9223372036854775807
  pl : ∀ p ∈ ps, p.level.length ≤ 9223372036854775807 ∧ p.start.length ≤ 9223372036854775807 ∧ p.rain.length ≤ 9223372036854775807
  ll : ∀ x ∈ ls, x.rate.length ≤ 9223372036854775807 ∧ x.lo.length ≤ 9223372036854775807 ∧ x.hi.length ≤ 9223372036854775807
  rl : rs.length ≤ 9223372036854775807
  sl : ss.length ≤ 9223372036854775807
  ml : room.length ≤ 9223372036854775807
structure BasRd (OA B LA TA GA RDA SA MA : Option Addr) (os : List ByteArray) (ps : List Pl) (ls : List Lk) (ts : List Tw) (gs' : List Gg) (rs : List Rv) (ss : List Sh) (room : List Int) (w : World) : Prop where
  o : Rd w OA (os.flatMap ovc)
  p : Pls w B ps
  l : Lks w LA ls
  t : Rd w TA (ts.flatMap twc)
  g : Rd w GA (gs'.flatMap ggc)
  r : Rd w RDA (rs.flatMap rvc)
  s : Rd w SA (ss.flatMap shc)
  m : Rd w MA (ints room)
theorem BasRd.below {OA B LA TA GA RDA SA MA : Option Addr} {os : List ByteArray} {ps : List Pl} {ls : List Lk} {ts : List Tw} {gs' : List Gg} {rs : List Rv} {ss : List Sh} {room : List Int} {w w' : World}
    (h : BasRd OA B LA TA GA RDA SA MA os ps ls ts gs' rs ss room w) (hb : Below w.heap.size w w') : BasRd OA B LA TA GA RDA SA MA os ps ls ts gs' rs ss room w' :=
  ⟨h.o.below (Nat.le_refl _) hb, h.p.below (Nat.le_refl _) hb, h.l.below (Nat.le_refl _) hb, h.t.below (Nat.le_refl _) hb, h.g.below (Nat.le_refl _) hb, h.r.below (Nat.le_refl _) hb, h.s.below (Nat.le_refl _) hb, h.m.below (Nat.le_refl _) hb⟩
noncomputable def basinB (nm : ByteArray) (os : List ByteArray) (cells : Int) (ps : List Pl) (ls : List Lk) (ts : List Tw) (gs' : List Gg) (rs : List Rv) (ss : List Sh) (room : List Int) (err : Int) : Bool :=
  headB nm os.length cells ps.length rs.length ss.length room err && namesB os ps ls ts ss gs' rs && placesB os.length cells ps && ls.all (linkB ps.length) && (ps.all (offP ps) && ls.all (offL ps)) && slopesB ps ls &&
  (ts.all (townB ps.length) && ss.all shelB) && gs'.all (gaugB ps.length cells.toNat ls.length) && rs.all (roadB ts.length ss.length ps.length)
set_option maxHeartbeats 32000000 in
set_option maxRecDepth 100000 in
theorem bright_is (nm : ByteArray) (OA B LA TA GA RDA SA MA : Option Addr) (oc cb lc tc gc rdc sc mc : Nat) (os : List ByteArray) (cells : Int) (ps : List Pl) (ls : List Lk) (ts : List Tw) (gs' : List Gg) (rs : List Rv) (ss : List Sh) (room : List Int) (err : Int)
    (hon : os.length ≤ 4) (hpn : ps.length ≤ 5) (hln : ls.length ≤ 4) (htn : ts.length ≤ 2) (hgn : gs'.length ≤ 6) (hok : BasOk nm OA B LA TA GA RDA SA MA os ps ls ts gs' rs ss room) (w : World) (hrd : BasRd OA B LA TA GA RDA SA MA os ps ls ts gs' rs ss room w) :
    Calls Tryz.prog 16 #[.agg #[.string nm, .slice OA os.length oc, .int .i64 cells, .slice B ps.length cb, .slice LA ls.length lc, .slice TA ts.length tc, .slice GA gs'.length gc, .slice RDA rs.length rdc, .slice SA ss.length sc, .slice MA room.length mc, .int .i64 err]] w fun e w' => e = .returned (.bool (basinB nm os cells ps ls ts gs' rs ss room err)) ∧ Below w.heap.size w w' := by
  obtain ⟨R, hR⟩ : ∃ b, basinB nm os cells ps ls ts gs' rs ss room err = b := ⟨_, rfl⟩
  rw [hR]
  have HF := Lib.hid hR.symm
  clear hR
  go_enter Tryz.func16, Tryz.ntmps16
  go_upto_region 1 with fail
  refine wp_rebase _ (fun V hV x0 => ?_)
  have HB0 := Lib.hid (show Below w.heap.size w V by rw [hV]; exact bel_alloc (Below.refl _ _) _)
  have HBB := Lib.hid (show V.rangeAt w.heap.size 0 [.string nm, .slice OA os.length oc, .int .i64 cells, .slice B ps.length cb, .slice LA ls.length lc, .slice TA ts.length tc, .slice GA gs'.length gc, .slice RDA rs.length rdc, .slice SA ss.length sc, .slice MA room.length mc, .int .i64 err] by rw [hV]; exact range_new _ _ [.string nm, .slice OA os.length oc, .int .i64 cells, .slice B ps.length cb, .slice LA ls.length lc, .slice TA ts.length tc, .slice GA gs'.length gc, .slice RDA rs.length rdc, .slice SA ss.length sc, .slice MA room.length mc, .int .i64 err])
  have HG := Lib.hid (fun z : BelW V => (show Below w.heap.size w z.w from below_next HB0.out z.2))
  have HRD := Lib.hid (fun z : BelW V => (show BasRd OA B LA TA GA RDA SA MA os ps ls ts gs' rs ss room z.w from hrd.below (below_next HB0.out z.2)))
  clear hV hrd
  have CH := Lib.hid (fun z : BelW V => bel_of (x := z) (head_is nm OA B LA TA GA RDA SA MA os.length oc ps.length cb ls.length lc ts.length tc gs'.length gc rs.length rdc ss.length sc mc cells err room (by omega) (by omega) (by omega) hok.ml z.w (HRD.out z).m))
  have CN := Lib.hid (fun (z : BelW V) (h : headB nm os.length cells ps.length rs.length ss.length room err = true) => bel_of (x := z) (names_is (.string nm) (.int .i64 cells) (.slice MA room.length mc) (.int .i64 err) OA B LA TA GA RDA SA oc cb lc tc gc rdc sc os ps ls ts gs' rs ss
    (by
      unfold headB at h
      simp only [Bool.and_eq_true, decide_eq_true_eq] at h
      obtain ⟨⟨⟨⟨⟨⟨⟨⟨⟨a1, a2⟩, a3⟩, a4⟩, a5⟩, a6⟩, a7⟩, a8⟩, a9⟩, a10⟩ := h
      omega) ⟨hok.oz, hok.pz, hok.lz, hok.tz, hok.sz, hok.gz, hok.rz⟩ z.w (HRD.out z).o (HRD.out z).p (HRD.out z).l (HRD.out z).t (HRD.out z).g (HRD.out z).r (HRD.out z).s))
  have CP := Lib.hid (fun z : BelW V => bel_of (x := z) (places_is (.string nm) (.slice LA ls.length lc) (.slice TA ts.length tc) (.slice GA gs'.length gc) (.slice RDA rs.length rdc) (.slice SA ss.length sc) (.slice MA room.length mc) (.int .i64 err) OA B os.length oc cb cells ps (by omega) (by omega) hok.pl z.w (HRD.out z).p))
  have CL := Lib.hid (fun z : BelW V => bel_of (x := z) (links_is (.string nm) (.slice OA os.length oc) (.int .i64 cells) (.slice TA ts.length tc) (.slice GA gs'.length gc) (.slice RDA rs.length rdc) (.slice SA ss.length sc) (.slice MA room.length mc) (.int .i64 err) B LA ps.length cb lc ls (by omega) (by omega) hok.ll z.w (HRD.out z).l))
  have CO := Lib.hid (fun (z : BelW V) (h1 : placesB os.length cells ps = true) (h2 : ls.all (linkB ps.length) = true) => bel_of (x := z) (offices_is (.string nm) (.slice OA os.length oc) (.int .i64 cells) (.slice TA ts.length tc) (.slice GA gs'.length gc) (.slice RDA rs.length rdc) (.slice SA ss.length sc) (.slice MA room.length mc) (.int .i64 err) B LA cb lc ps ls (by omega) (by omega)
    (fun p hp => (placesB_ok h1 p hp).1) (fun l hl => (linkB_ok (List.all_eq_true.1 h2 l hl)).ok) z.w (HRD.out z).p (HRD.out z).l))
  have CS := Lib.hid (fun (z : BelW V) (h1 : placesB os.length cells ps = true) (h2 : ls.all (linkB ps.length) = true) => bel_of (x := z) (slopes_is (.string nm) (.slice OA os.length oc) (.int .i64 cells) (.slice TA ts.length tc) (.slice GA gs'.length gc) (.slice RDA rs.length rdc) (.slice SA ss.length sc) (.slice MA room.length mc) (.int .i64 err) B LA cb lc ps ls (by omega) (by omega)
    (fun p hp => (placesB_ok h1 p hp).2) (fun l hl => linkB_ok (List.all_eq_true.1 h2 l hl)) z.w (HRD.out z).p (HRD.out z).l))
  have CT := Lib.hid (fun z : BelW V => bel_of (x := z) (towns_is (.string nm) (.slice OA os.length oc) (.int .i64 cells) (.slice LA ls.length lc) (.slice GA gs'.length gc) (.slice RDA rs.length rdc) (.slice MA room.length mc) (.int .i64 err) B TA SA ps.length cb tc sc ts ss (by omega) (by omega) hok.sl z.w (HRD.out z).t (HRD.out z).s))
  have CG := Lib.hid (fun (z : BelW V) (h : headB nm os.length cells ps.length rs.length ss.length room err = true) => bel_of (x := z) (show Calls Tryz.prog 42 #[.agg #[.string nm, .slice OA os.length oc, .int .i64 cells, .slice B ps.length cb, .slice LA ls.length lc, .slice TA ts.length tc, .slice GA gs'.length gc, .slice RDA rs.length rdc, .slice SA ss.length sc, .slice MA room.length mc, .int .i64 err]] z.w fun e w' => e = .returned (.bool (gs'.all (gaugB ps.length cells.toNat ls.length))) ∧ Below z.w.heap.size z.w w' from by
    have hc := headB_of h
    obtain ⟨cn, rfl⟩ : ∃ cn : Nat, cells = (cn : Int) := ⟨cells.toNat, by omega⟩
    rw [Int.toNat_natCast]
    exact gauges_is (.string nm) (.slice OA os.length oc) (.slice TA ts.length tc) (.slice RDA rs.length rdc) (.slice SA ss.length sc) (.slice MA room.length mc) (.int .i64 err) B LA GA ps.length cb cn ls.length lc gc gs' (by omega) (by omega) (by omega) (by omega) z.w (HRD.out z).g))
  have CR := Lib.hid (fun (z : BelW V) (h : headB nm os.length cells ps.length rs.length ss.length room err = true) => bel_of (x := z) (roads_is (.string nm) (.slice OA os.length oc) (.int .i64 cells) (.slice LA ls.length lc) (.slice GA gs'.length gc) (.slice MA room.length mc) (.int .i64 err) B TA SA RDA ps.length cb ts.length tc ss.length sc rdc rs (by omega) (by omega)
    (by
      unfold headB at h
      simp only [Bool.and_eq_true, decide_eq_true_eq] at h
      obtain ⟨⟨⟨⟨⟨⟨⟨⟨⟨a1, a2⟩, a3⟩, a4⟩, a5⟩, a6⟩, a7⟩, a8⟩, a9⟩, a10⟩ := h
      omega) hok.rl z.w (HRD.out z).r))
  clear hok HRD
  go_wp2_with (first
    | (with_reducible refine wpList_load_g 31 _ (by with_reducible rfl) _ _ (by with_unfolding_all rfl) (by with_unfolding_all rfl) _ _ (BelW.range HBB.out _) Tryz.underlying31 (by with_unfolding_all rfl) (by kernel_rfl) ?_)
    | (go_at_call 35; (with_reducible refine (CH.out _).mono ?_); rintro e w1 ⟨rfl, z, rfl⟩; generalize hq1 : headB _ _ _ _ _ _ _ _ = b; cases b)
    | (go_at_call 36; (with_reducible refine (CN.out _ (by assumption)).mono ?_); rintro e w1 ⟨rfl, z, rfl⟩; generalize hq2 : namesB _ _ _ _ _ _ _ = b; cases b)
    | (go_at_call 37; (with_reducible refine (CP.out _).mono ?_); rintro e w1 ⟨rfl, z, rfl⟩; generalize hq3 : placesB _ _ _ = b; cases b)
    | (go_at_call 38; (with_reducible refine (CL.out _).mono ?_); rintro e w1 ⟨rfl, z, rfl⟩; generalize hq4 : List.all _ _ = b; cases b)
    | (go_at_call 39; (with_reducible refine (CO.out _ (by assumption) (by assumption)).mono ?_); rintro e w1 ⟨rfl, z, rfl⟩; generalize hq5 : (List.all _ _ && List.all _ _) = b; cases b)
    | (go_at_call 40; (with_reducible refine (CS.out _ (by assumption) (by assumption)).mono ?_); rintro e w1 ⟨rfl, z, rfl⟩; generalize hq6 : slopesB _ _ = b; cases b)
    | (go_at_call 41; (with_reducible refine (CT.out _).mono ?_); rintro e w1 ⟨rfl, z, rfl⟩; generalize hq7 : (List.all _ _ && List.all _ _) = b; cases b)
    | (go_at_call 42; (with_reducible refine (CG.out _ (by assumption)).mono ?_); rintro e w1 ⟨rfl, z, rfl⟩; generalize hq8 : List.all _ _ = b; cases b)
    | (go_at_call 43; (with_reducible refine (CR.out _ (by assumption)).mono ?_); rintro e w1 ⟨rfl, z, rfl⟩; generalize hq9 : List.all _ _ = b; cases b))
  all_goals first
    | (have hr : R = false := (by rw [HF.out]; unfold basinB; simp only [*, Bool.and_true, Bool.and_false, Bool.false_and, Bool.true_and]); subst hr; go_ret; exact ⟨rfl, HG.out _⟩)
    | (have hr : R = true := (by rw [HF.out]; unfold basinB; simp only [*, Bool.and_true, Bool.and_false, Bool.false_and, Bool.true_and]); subst hr; go_ret; exact ⟨rfl, HG.out _⟩)
set_option maxHeartbeats 32000000 in
set_option maxRecDepth 100000 in
theorem tiny_any (nm : ByteArray) (OA B LA TA GA RDA SA MA : Option Addr) (oc cb lc tc gc rdc sc mc : Nat) (os : List ByteArray) (cells : Int) (ps : List Pl) (ls : List Lk) (ts : List Tw) (gs' : List Gg) (rs : List Rv) (ss : List Sh) (room : List Int) (err : Int)
    (hok : BasOk nm OA B LA TA GA RDA SA MA os ps ls ts gs' rs ss room) (w : World) (hrd : BasRd OA B LA TA GA RDA SA MA os ps ls ts gs' rs ss room w) :
    Calls Tryz.prog 5 #[.agg #[.string nm, .slice OA os.length oc, .int .i64 cells, .slice B ps.length cb, .slice LA ls.length lc, .slice TA ts.length tc, .slice GA gs'.length gc, .slice RDA rs.length rdc, .slice SA ss.length sc, .slice MA room.length mc, .int .i64 err]] w (TiB ps.length w) := by
  by_cases h1 : 5 < ps.length
  · have t1 : decide ((5 : Int) < (ps.length : Int)) = true := decide_eq_true (by omega)
    (go_enter Tryz.func5, Tryz.ntmps5; go_upto_region 1 with fail; refine wp_rebase _ (fun V hV x0 => ?_); have HB0 := Lib.hid (show Below w.heap.size w V by rw [hV]; exact bel_alloc (Below.refl _ _) _); have HBB := Lib.hid (show V.rangeAt w.heap.size 0 [.string nm, .slice OA os.length oc, .int .i64 cells, .slice B ps.length cb, .slice LA ls.length lc, .slice TA ts.length tc, .slice GA gs'.length gc, .slice RDA rs.length rdc, .slice SA ss.length sc, .slice MA room.length mc, .int .i64 err] by rw [hV]; exact range_new _ _ [.string nm, .slice OA os.length oc, .int .i64 cells, .slice B ps.length cb, .slice LA ls.length lc, .slice TA ts.length tc, .slice GA gs'.length gc, .slice RDA rs.length rdc, .slice SA ss.length sc, .slice MA room.length mc, .int .i64 err]); have HG := Lib.hid (fun z : BelW V => (show Below w.heap.size w z.w from below_next HB0.out z.2)); clear hV; have b1 := fun z : BelW V => (show z.w.cell? ⟨w.heap.size, 1, none⟩ = some (.slice OA os.length oc) from BelW.range HBB.out z 1 _ rfl); have b3 := fun z : BelW V => (show z.w.cell? ⟨w.heap.size, 3, none⟩ = some (.slice B ps.length cb) from BelW.range HBB.out z 3 _ rfl); have b4 := fun z : BelW V => (show z.w.cell? ⟨w.heap.size, 4, none⟩ = some (.slice LA ls.length lc) from BelW.range HBB.out z 4 _ rfl); have b5 := fun z : BelW V => (show z.w.cell? ⟨w.heap.size, 5, none⟩ = some (.slice TA ts.length tc) from BelW.range HBB.out z 5 _ rfl); have b6 := fun z : BelW V => (show z.w.cell? ⟨w.heap.size, 6, none⟩ = some (.slice GA gs'.length gc) from BelW.range HBB.out z 6 _ rfl); go_wp2_with fail; go_ret; exact ⟨⟨false, rfl, fun h => by cases h⟩, HG.out _⟩)
  have t1 : decide ((5 : Int) < (ps.length : Int)) = false := decide_eq_false (by omega)
  by_cases h2 : 4 < ls.length
  · have t2 : decide ((4 : Int) < (ls.length : Int)) = true := decide_eq_true (by omega)
    (go_enter Tryz.func5, Tryz.ntmps5; go_upto_region 1 with fail; refine wp_rebase _ (fun V hV x0 => ?_); have HB0 := Lib.hid (show Below w.heap.size w V by rw [hV]; exact bel_alloc (Below.refl _ _) _); have HBB := Lib.hid (show V.rangeAt w.heap.size 0 [.string nm, .slice OA os.length oc, .int .i64 cells, .slice B ps.length cb, .slice LA ls.length lc, .slice TA ts.length tc, .slice GA gs'.length gc, .slice RDA rs.length rdc, .slice SA ss.length sc, .slice MA room.length mc, .int .i64 err] by rw [hV]; exact range_new _ _ [.string nm, .slice OA os.length oc, .int .i64 cells, .slice B ps.length cb, .slice LA ls.length lc, .slice TA ts.length tc, .slice GA gs'.length gc, .slice RDA rs.length rdc, .slice SA ss.length sc, .slice MA room.length mc, .int .i64 err]); have HG := Lib.hid (fun z : BelW V => (show Below w.heap.size w z.w from below_next HB0.out z.2)); clear hV; have b1 := fun z : BelW V => (show z.w.cell? ⟨w.heap.size, 1, none⟩ = some (.slice OA os.length oc) from BelW.range HBB.out z 1 _ rfl); have b3 := fun z : BelW V => (show z.w.cell? ⟨w.heap.size, 3, none⟩ = some (.slice B ps.length cb) from BelW.range HBB.out z 3 _ rfl); have b4 := fun z : BelW V => (show z.w.cell? ⟨w.heap.size, 4, none⟩ = some (.slice LA ls.length lc) from BelW.range HBB.out z 4 _ rfl); have b5 := fun z : BelW V => (show z.w.cell? ⟨w.heap.size, 5, none⟩ = some (.slice TA ts.length tc) from BelW.range HBB.out z 5 _ rfl); have b6 := fun z : BelW V => (show z.w.cell? ⟨w.heap.size, 6, none⟩ = some (.slice GA gs'.length gc) from BelW.range HBB.out z 6 _ rfl); go_wp2_with fail; go_ret; exact ⟨⟨false, rfl, fun h => by cases h⟩, HG.out _⟩)
  have t2 : decide ((4 : Int) < (ls.length : Int)) = false := decide_eq_false (by omega)
  by_cases h3 : 6 < gs'.length
  · have t3 : decide ((6 : Int) < (gs'.length : Int)) = true := decide_eq_true (by omega)
    (go_enter Tryz.func5, Tryz.ntmps5; go_upto_region 1 with fail; refine wp_rebase _ (fun V hV x0 => ?_); have HB0 := Lib.hid (show Below w.heap.size w V by rw [hV]; exact bel_alloc (Below.refl _ _) _); have HBB := Lib.hid (show V.rangeAt w.heap.size 0 [.string nm, .slice OA os.length oc, .int .i64 cells, .slice B ps.length cb, .slice LA ls.length lc, .slice TA ts.length tc, .slice GA gs'.length gc, .slice RDA rs.length rdc, .slice SA ss.length sc, .slice MA room.length mc, .int .i64 err] by rw [hV]; exact range_new _ _ [.string nm, .slice OA os.length oc, .int .i64 cells, .slice B ps.length cb, .slice LA ls.length lc, .slice TA ts.length tc, .slice GA gs'.length gc, .slice RDA rs.length rdc, .slice SA ss.length sc, .slice MA room.length mc, .int .i64 err]); have HG := Lib.hid (fun z : BelW V => (show Below w.heap.size w z.w from below_next HB0.out z.2)); clear hV; have b1 := fun z : BelW V => (show z.w.cell? ⟨w.heap.size, 1, none⟩ = some (.slice OA os.length oc) from BelW.range HBB.out z 1 _ rfl); have b3 := fun z : BelW V => (show z.w.cell? ⟨w.heap.size, 3, none⟩ = some (.slice B ps.length cb) from BelW.range HBB.out z 3 _ rfl); have b4 := fun z : BelW V => (show z.w.cell? ⟨w.heap.size, 4, none⟩ = some (.slice LA ls.length lc) from BelW.range HBB.out z 4 _ rfl); have b5 := fun z : BelW V => (show z.w.cell? ⟨w.heap.size, 5, none⟩ = some (.slice TA ts.length tc) from BelW.range HBB.out z 5 _ rfl); have b6 := fun z : BelW V => (show z.w.cell? ⟨w.heap.size, 6, none⟩ = some (.slice GA gs'.length gc) from BelW.range HBB.out z 6 _ rfl); go_wp2_with fail; go_ret; exact ⟨⟨false, rfl, fun h => by cases h⟩, HG.out _⟩)
  have t3 : decide ((6 : Int) < (gs'.length : Int)) = false := decide_eq_false (by omega)
  by_cases h4 : 2 < ts.length
  · have t4 : decide ((2 : Int) < (ts.length : Int)) = true := decide_eq_true (by omega)
    (go_enter Tryz.func5, Tryz.ntmps5; go_upto_region 1 with fail; refine wp_rebase _ (fun V hV x0 => ?_); have HB0 := Lib.hid (show Below w.heap.size w V by rw [hV]; exact bel_alloc (Below.refl _ _) _); have HBB := Lib.hid (show V.rangeAt w.heap.size 0 [.string nm, .slice OA os.length oc, .int .i64 cells, .slice B ps.length cb, .slice LA ls.length lc, .slice TA ts.length tc, .slice GA gs'.length gc, .slice RDA rs.length rdc, .slice SA ss.length sc, .slice MA room.length mc, .int .i64 err] by rw [hV]; exact range_new _ _ [.string nm, .slice OA os.length oc, .int .i64 cells, .slice B ps.length cb, .slice LA ls.length lc, .slice TA ts.length tc, .slice GA gs'.length gc, .slice RDA rs.length rdc, .slice SA ss.length sc, .slice MA room.length mc, .int .i64 err]); have HG := Lib.hid (fun z : BelW V => (show Below w.heap.size w z.w from below_next HB0.out z.2)); clear hV; have b1 := fun z : BelW V => (show z.w.cell? ⟨w.heap.size, 1, none⟩ = some (.slice OA os.length oc) from BelW.range HBB.out z 1 _ rfl); have b3 := fun z : BelW V => (show z.w.cell? ⟨w.heap.size, 3, none⟩ = some (.slice B ps.length cb) from BelW.range HBB.out z 3 _ rfl); have b4 := fun z : BelW V => (show z.w.cell? ⟨w.heap.size, 4, none⟩ = some (.slice LA ls.length lc) from BelW.range HBB.out z 4 _ rfl); have b5 := fun z : BelW V => (show z.w.cell? ⟨w.heap.size, 5, none⟩ = some (.slice TA ts.length tc) from BelW.range HBB.out z 5 _ rfl); have b6 := fun z : BelW V => (show z.w.cell? ⟨w.heap.size, 6, none⟩ = some (.slice GA gs'.length gc) from BelW.range HBB.out z 6 _ rfl); go_wp2_with fail; go_ret; exact ⟨⟨false, rfl, fun h => by cases h⟩, HG.out _⟩)
  have t4 : decide ((2 : Int) < (ts.length : Int)) = false := decide_eq_false (by omega)
  by_cases h5 : 4 < os.length
  · have t5 : decide ((4 : Int) < (os.length : Int)) = true := decide_eq_true (by omega)
    (go_enter Tryz.func5, Tryz.ntmps5; go_upto_region 1 with fail; refine wp_rebase _ (fun V hV x0 => ?_); have HB0 := Lib.hid (show Below w.heap.size w V by rw [hV]; exact bel_alloc (Below.refl _ _) _); have HBB := Lib.hid (show V.rangeAt w.heap.size 0 [.string nm, .slice OA os.length oc, .int .i64 cells, .slice B ps.length cb, .slice LA ls.length lc, .slice TA ts.length tc, .slice GA gs'.length gc, .slice RDA rs.length rdc, .slice SA ss.length sc, .slice MA room.length mc, .int .i64 err] by rw [hV]; exact range_new _ _ [.string nm, .slice OA os.length oc, .int .i64 cells, .slice B ps.length cb, .slice LA ls.length lc, .slice TA ts.length tc, .slice GA gs'.length gc, .slice RDA rs.length rdc, .slice SA ss.length sc, .slice MA room.length mc, .int .i64 err]); have HG := Lib.hid (fun z : BelW V => (show Below w.heap.size w z.w from below_next HB0.out z.2)); clear hV; have b1 := fun z : BelW V => (show z.w.cell? ⟨w.heap.size, 1, none⟩ = some (.slice OA os.length oc) from BelW.range HBB.out z 1 _ rfl); have b3 := fun z : BelW V => (show z.w.cell? ⟨w.heap.size, 3, none⟩ = some (.slice B ps.length cb) from BelW.range HBB.out z 3 _ rfl); have b4 := fun z : BelW V => (show z.w.cell? ⟨w.heap.size, 4, none⟩ = some (.slice LA ls.length lc) from BelW.range HBB.out z 4 _ rfl); have b5 := fun z : BelW V => (show z.w.cell? ⟨w.heap.size, 5, none⟩ = some (.slice TA ts.length tc) from BelW.range HBB.out z 5 _ rfl); have b6 := fun z : BelW V => (show z.w.cell? ⟨w.heap.size, 6, none⟩ = some (.slice GA gs'.length gc) from BelW.range HBB.out z 6 _ rfl); go_wp2_with fail; go_ret; exact ⟨⟨false, rfl, fun h => by cases h⟩, HG.out _⟩)
  have t5 : decide ((4 : Int) < (os.length : Int)) = false := decide_eq_false (by omega)
  have HRD := Lib.hid hrd
  have HOK := Lib.hid hok
  clear hrd hok
  go_enter Tryz.func5, Tryz.ntmps5
  go_upto_region 1 with fail
  refine wp_rebase _ (fun V hV x0 => ?_)
  have HB0 := Lib.hid (show Below w.heap.size w V by rw [hV]; exact bel_alloc (Below.refl _ _) _)
  have HBB := Lib.hid (show V.rangeAt w.heap.size 0 [.string nm, .slice OA os.length oc, .int .i64 cells, .slice B ps.length cb, .slice LA ls.length lc, .slice TA ts.length tc, .slice GA gs'.length gc, .slice RDA rs.length rdc, .slice SA ss.length sc, .slice MA room.length mc, .int .i64 err] by rw [hV]; exact range_new _ _ [.string nm, .slice OA os.length oc, .int .i64 cells, .slice B ps.length cb, .slice LA ls.length lc, .slice TA ts.length tc, .slice GA gs'.length gc, .slice RDA rs.length rdc, .slice SA ss.length sc, .slice MA room.length mc, .int .i64 err])
  have HG := Lib.hid (fun z : BelW V => (show Below w.heap.size w z.w from below_next HB0.out z.2))
  have CB := Lib.hid (fun z : BelW V => bel_of (x := z) (bright_is nm OA B LA TA GA RDA SA MA oc cb lc tc gc rdc sc mc os cells ps ls ts gs' rs ss room err (by omega) (by omega) (by omega) (by omega) (by omega) HOK.out z.w (HRD.out.below (HG.out z))))
  clear hV
  have b1 := fun z : BelW V => (show z.w.cell? ⟨w.heap.size, 1, none⟩ = some (.slice OA os.length oc) from BelW.range HBB.out z 1 _ rfl)
  have b3 := fun z : BelW V => (show z.w.cell? ⟨w.heap.size, 3, none⟩ = some (.slice B ps.length cb) from BelW.range HBB.out z 3 _ rfl)
  have b4 := fun z : BelW V => (show z.w.cell? ⟨w.heap.size, 4, none⟩ = some (.slice LA ls.length lc) from BelW.range HBB.out z 4 _ rfl)
  have b5 := fun z : BelW V => (show z.w.cell? ⟨w.heap.size, 5, none⟩ = some (.slice TA ts.length tc) from BelW.range HBB.out z 5 _ rfl)
  have b6 := fun z : BelW V => (show z.w.cell? ⟨w.heap.size, 6, none⟩ = some (.slice GA gs'.length gc) from BelW.range HBB.out z 6 _ rfl)
  go_wp2_with (first
    | (with_reducible refine wpList_load_g 31 _ (by with_reducible rfl) _ _ (by with_unfolding_all rfl) (by with_unfolding_all rfl) _ _ (BelW.range HBB.out _) Tryz.underlying31 (by with_unfolding_all rfl) (by kernel_rfl) ?_)
    | (go_at_call 16; (with_reducible refine (CB.out _).mono ?_); rintro e w1 ⟨rfl, z, rfl⟩; generalize hq1 : basinB _ _ _ _ _ _ _ _ _ _ _ = b))
  go_ret
  exact ⟨⟨b, rfl, fun _ => by omega⟩, HG.out _⟩
end Go.Proofs.YtngjakahanmepaaGreatDoor
namespace Go.Proofs.YtngjakahanmepaaGreatDoor.Opn
open Go.RowKit Go.ChangeShapes Go.WideShapes Go.Joins Go.Deep
set_option linter.unusedVariables false
set_option linter.unusedSimpArgs false
theorem kc_int : Tryz.prog.cellsOf 3 = 1 := by kernel_rfl
theorem kc_string : Tryz.prog.cellsOf 9 = 1 := by kernel_rfl
theorem kc_basin : Tryz.prog.cellsOf 31 = 11 := by kernel_rfl
theorem kc_Point : Tryz.prog.cellsOf 92 = 2 := by kernel_rfl
theorem kc_Cell : Tryz.prog.cellsOf 94 = 2 := by kernel_rfl
theorem kc_Place : Tryz.prog.cellsOf 90 = 12 := by kernel_rfl
theorem kc_Link : Tryz.prog.cellsOf 98 = 18 := by kernel_rfl
theorem kc_Town : Tryz.prog.cellsOf 100 = 7 := by kernel_rfl
theorem kc_Gauge : Tryz.prog.cellsOf 102 = 5 := by kernel_rfl
theorem kc_Road : Tryz.prog.cellsOf 166 = 7 := by kernel_rfl
theorem kc_Shelter : Tryz.prog.cellsOf 164 = 2 := by kernel_rfl
theorem kc_Deal : Tryz.prog.cellsOf 74 = 13 := by kernel_rfl
theorem kc_Right : Tryz.prog.cellsOf 46 = 9 := by kernel_rfl
theorem kc_Band : Tryz.prog.cellsOf 96 = 2 := by kernel_rfl
theorem kc_pts : Tryz.prog.cellsOf 87 = 1 := by kernel_rfl
theorem kc_cells : Tryz.prog.cellsOf 88 = 1 := by kernel_rfl
theorem kc_ints : Tryz.prog.cellsOf 29 = 1 := by kernel_rfl
theorem kc_strs : Tryz.prog.cellsOf 22 = 1 := by kernel_rfl
theorem kc_sPlace : Tryz.prog.cellsOf 23 = 1 := by kernel_rfl
theorem kc_sLink : Tryz.prog.cellsOf 24 = 1 := by kernel_rfl
theorem kc_sTown : Tryz.prog.cellsOf 25 = 1 := by kernel_rfl
theorem kc_sGauge : Tryz.prog.cellsOf 26 = 1 := by kernel_rfl
theorem kc_sRoad : Tryz.prog.cellsOf 27 = 1 := by kernel_rfl
theorem kc_sShelter : Tryz.prog.cellsOf 28 = 1 := by kernel_rfl
instance : Inhabited Pl := ⟨pl0⟩
instance : Inhabited Dl := ⟨dl0⟩
instance : Inhabited Lk := ⟨⟨⟨#[]⟩, 0, 0, 0, none, 0, [], none, 0, [], none, 0, [], 0, 0, 0, 0, 0, 0, 0, 0, 0, 0, 0⟩⟩
instance : Inhabited Tw := ⟨⟨⟨#[]⟩, 0, 0, 0, 0, 0, 0⟩⟩
instance : Inhabited Gg := ⟨⟨⟨#[]⟩, 0, 0, 0, 0⟩⟩
instance : Inhabited Rv := ⟨⟨⟨#[]⟩, 0, 0, 0, 0, 0, 0⟩⟩
instance : Inhabited Sh := ⟨⟨⟨#[]⟩, 0⟩⟩
section
variable {H : Type} {enc : TypeId × Value → H} {w : World} {base : Nat} {spare : Nat → Bool} {held : Bool}
theorem slice_form {n : Nat} {t e : TypeId} {v : Value} {y : DataW H × List MemPlace} (ht : Tryz.prog.underlying t = some (.slice e)) (h : DataW.trod enc Tryz.prog w base spare held n t [v] = some y) : ∃ A m c, v = .slice A m c := by
  rcases DataW.trod_slice ht h with ⟨e, _⟩ | ⟨a, len, cap, _, _, _, _, e, _⟩
  · simp at e; exact ⟨_, _, _, e⟩
  · simp at e; exact ⟨_, _, _, e⟩
theorem dec_point (n : Nat) (cs : List Value) (y : DataW H × List MemPlace) (h : DataW.trod enc Tryz.prog w base spare held n 92 cs = some y) (hl : cs.length = 2) : ∃ x : Sp, spc x = cs ∧ (fun _ : Sp => True) x := by
  match cs, hl with
  | [c0, c1], _ =>
    obtain ⟨xs, n', _, _, _, hlen, hg⟩ := DataW.trod_struct Tryz.underlying92 h
    have g0 := (hg 0 _ rfl).trans (List.getElem?_eq_getElem (by rw [hlen]; decide))
    have g1 := (hg 1 _ rfl).trans (List.getElem?_eq_getElem (by rw [hlen]; decide))
    obtain ⟨a0, e0, _, w0⟩ := DataW.trod_int Tryz.underlying3 g0
    obtain ⟨a1, e1, _, w1⟩ := DataW.trod_int Tryz.underlying3 g1
    simp [kc_int, kc_string] at e0 e1
    subst e0 e1
    exact ⟨(a0, a1), rfl, trivial⟩
theorem dec_cell (n : Nat) (cs : List Value) (y : DataW H × List MemPlace) (h : DataW.trod enc Tryz.prog w base spare held n 94 cs = some y) (hl : cs.length = 2) : ∃ x : Sp, spc x = cs ∧ (fun _ : Sp => True) x := by
  match cs, hl with
  | [c0, c1], _ =>
    obtain ⟨xs, n', _, _, _, hlen, hg⟩ := DataW.trod_struct Tryz.underlying94 h
    have g0 := (hg 0 _ rfl).trans (List.getElem?_eq_getElem (by rw [hlen]; decide))
    have g1 := (hg 1 _ rfl).trans (List.getElem?_eq_getElem (by rw [hlen]; decide))
    obtain ⟨a0, e0, _, w0⟩ := DataW.trod_int Tryz.underlying3 g0
    obtain ⟨a1, e1, _, w1⟩ := DataW.trod_int Tryz.underlying3 g1
    simp [kc_int, kc_string] at e0 e1
    subst e0 e1
    exact ⟨(a0, a1), rfl, trivial⟩
structure PlG (w : World) (x : Pl) : Prop where
  nz : x.nm.size ≤ 9223372036854775807
  ln : x.level.length ≤ 9223372036854775807 ∧ x.start.length ≤ 9223372036854775807 ∧ x.rain.length ≤ 9223372036854775807
  lev : Rd w x.LA (spCells x.level)
  sta : Rd w x.SA (ints x.start)
  rai : Rd w x.RA (spCells x.rain)
structure LkG (w : World) (x : Lk) : Prop where
  nz : x.nm.size ≤ 9223372036854775807
  ln : x.rate.length ≤ 9223372036854775807 ∧ x.lo.length ≤ 9223372036854775807 ∧ x.hi.length ≤ 9223372036854775807
  rate : Rd w x.RA (spCells x.rate)
  lo : Rd w x.LA (spCells x.lo)
  hi : Rd w x.HA (spCells x.hi)
def DlG (x : Dl) : Prop := Fit x.r.id
theorem sz_of {s : ByteArray} (h : s.size ≤ maxLen) : s.size ≤ 9223372036854775807 := h
theorem dec_place (n : Nat) (cs : List Value) (y : DataW H × List MemPlace) (h : DataW.trod enc Tryz.prog w base spare held n 90 cs = some y) (hl : cs.length = 12) : ∃ x : Pl, plc x = cs ∧ PlG w x := by
  match cs, hl with
  | [c0, c1, c2, c3, c4, c5, c6, c7, c8, c9, c10, c11], _ =>
    obtain ⟨xs, n', _, _, _, hlen, hg⟩ := DataW.trod_struct Tryz.underlying90 h
    have g0 := (hg 0 _ rfl).trans (List.getElem?_eq_getElem (by rw [hlen]; decide))
    have g1 := (hg 1 _ rfl).trans (List.getElem?_eq_getElem (by rw [hlen]; decide))
    have g2 := (hg 2 _ rfl).trans (List.getElem?_eq_getElem (by rw [hlen]; decide))
    have g3 := (hg 3 _ rfl).trans (List.getElem?_eq_getElem (by rw [hlen]; decide))
    have g4 := (hg 4 _ rfl).trans (List.getElem?_eq_getElem (by rw [hlen]; decide))
    have g5 := (hg 5 _ rfl).trans (List.getElem?_eq_getElem (by rw [hlen]; decide))
    have g6 := (hg 6 _ rfl).trans (List.getElem?_eq_getElem (by rw [hlen]; decide))
    have g7 := (hg 7 _ rfl).trans (List.getElem?_eq_getElem (by rw [hlen]; decide))
    have g8 := (hg 8 _ rfl).trans (List.getElem?_eq_getElem (by rw [hlen]; decide))
    have g9 := (hg 9 _ rfl).trans (List.getElem?_eq_getElem (by rw [hlen]; decide))
    have g10 := (hg 10 _ rfl).trans (List.getElem?_eq_getElem (by rw [hlen]; decide))
    have g11 := (hg 11 _ rfl).trans (List.getElem?_eq_getElem (by rw [hlen]; decide))
    obtain ⟨a0, e0, _, w0⟩ := DataW.trod_string Tryz.underlying9 g0
    obtain ⟨a1, e1, _, w1⟩ := DataW.trod_int Tryz.underlying3 g1
    obtain ⟨a2, e2, _, w2⟩ := DataW.trod_int Tryz.underlying3 g2
    obtain ⟨a3, e3, _, w3⟩ := DataW.trod_int Tryz.underlying3 g3
    obtain ⟨a6, e6, _, w6⟩ := DataW.trod_int Tryz.underlying3 g6
    obtain ⟨a7, e7, _, w7⟩ := DataW.trod_int Tryz.underlying3 g7
    obtain ⟨a8, e8, _, w8⟩ := DataW.trod_int Tryz.underlying3 g8
    obtain ⟨a9, e9, _, w9⟩ := DataW.trod_int Tryz.underlying3 g9
    obtain ⟨a10, e10, _, w10⟩ := DataW.trod_int Tryz.underlying3 g10
    simp [kc_int, kc_string] at e0 e1 e2 e3 e6 e7 e8 e9 e10
    subst e0 e1 e2 e3 e6 e7 e8 e9 e10
    simp [kc_pts] at g4
    simp [kc_ints] at g5
    simp [kc_cells] at g11
    obtain ⟨A4, m4, q4, rfl⟩ := slice_form Tryz.underlying87 g4
    obtain ⟨A, q, l4, e, hr4, h4, z4, -, -⟩ := open_rowsT (Good := fun _ : Sp => True) spc_length (by omega) Tryz.underlying87 kc_Point dec_point g4
    cases e
    obtain ⟨A5, m5, q5, rfl⟩ := slice_form Tryz.underlying29 g5
    obtain ⟨A, q, l5, e, hr5, h5, z5, -, -⟩ := open_cell_ints Tryz.underlying29 Tryz.underlying3 kc_int g5
    cases e
    obtain ⟨A11, m11, q11, rfl⟩ := slice_form Tryz.underlying88 g11
    obtain ⟨A, q, l11, e, hr11, h11, z11, -, -⟩ := open_rowsT (Good := fun _ : Sp => True) spc_length (by omega) Tryz.underlying88 kc_Cell dec_cell g11
    cases e
    exact ⟨⟨a0, a1, a2, a3, A4, q4, l4, A5, q5, l5, a6, a7, a8, a9, a10, A11, q11, l11⟩, rfl, sz_of w0, ⟨by show l4.length ≤ _; omega, by show l5.length ≤ _; omega, by show l11.length ≤ _; omega⟩, hr4, hr5, hr11⟩
theorem dec_link (n : Nat) (cs : List Value) (y : DataW H × List MemPlace) (h : DataW.trod enc Tryz.prog w base spare held n 98 cs = some y) (hl : cs.length = 18) : ∃ x : Lk, lkc x = cs ∧ LkG w x := by
  match cs, hl with
  | [c0, c1, c2, c3, c4, c5, c6, c7, c8, c9, c10, c11, c12, c13, c14, c15, c16, c17], _ =>
    obtain ⟨xs, n', _, _, _, hlen, hg⟩ := DataW.trod_struct Tryz.underlying98 h
    have g0 := (hg 0 _ rfl).trans (List.getElem?_eq_getElem (by rw [hlen]; decide))
    have g1 := (hg 1 _ rfl).trans (List.getElem?_eq_getElem (by rw [hlen]; decide))
    have g2 := (hg 2 _ rfl).trans (List.getElem?_eq_getElem (by rw [hlen]; decide))
    have g3 := (hg 3 _ rfl).trans (List.getElem?_eq_getElem (by rw [hlen]; decide))
    have g4 := (hg 4 _ rfl).trans (List.getElem?_eq_getElem (by rw [hlen]; decide))
    have g5 := (hg 5 _ rfl).trans (List.getElem?_eq_getElem (by rw [hlen]; decide))
    have g7 := (hg 6 _ rfl).trans (List.getElem?_eq_getElem (by rw [hlen]; decide))
    have g8 := (hg 7 _ rfl).trans (List.getElem?_eq_getElem (by rw [hlen]; decide))
    have g9 := (hg 8 _ rfl).trans (List.getElem?_eq_getElem (by rw [hlen]; decide))
    have g10 := (hg 9 _ rfl).trans (List.getElem?_eq_getElem (by rw [hlen]; decide))
    have g11 := (hg 10 _ rfl).trans (List.getElem?_eq_getElem (by rw [hlen]; decide))
    have g12 := (hg 11 _ rfl).trans (List.getElem?_eq_getElem (by rw [hlen]; decide))
    have g13 := (hg 12 _ rfl).trans (List.getElem?_eq_getElem (by rw [hlen]; decide))
    have g14 := (hg 13 _ rfl).trans (List.getElem?_eq_getElem (by rw [hlen]; decide))
    have g15 := (hg 14 _ rfl).trans (List.getElem?_eq_getElem (by rw [hlen]; decide))
    have g16 := (hg 15 _ rfl).trans (List.getElem?_eq_getElem (by rw [hlen]; decide))
    have g17 := (hg 16 _ rfl).trans (List.getElem?_eq_getElem (by rw [hlen]; decide))
    obtain ⟨a0, e0, _, w0⟩ := DataW.trod_string Tryz.underlying9 g0
    obtain ⟨a1, e1, _, w1⟩ := DataW.trod_int Tryz.underlying3 g1
    obtain ⟨a2, e2, _, w2⟩ := DataW.trod_int Tryz.underlying3 g2
    obtain ⟨a3, e3, _, w3⟩ := DataW.trod_int Tryz.underlying3 g3
    obtain ⟨a7, e7, _, w7⟩ := DataW.trod_int Tryz.underlying3 g7
    obtain ⟨a8, e8, _, w8⟩ := DataW.trod_int Tryz.underlying3 g8
    obtain ⟨a9, e9, _, w9⟩ := DataW.trod_int Tryz.underlying3 g9
    obtain ⟨a10, e10, _, w10⟩ := DataW.trod_int Tryz.underlying3 g10
    obtain ⟨a11, e11, _, w11⟩ := DataW.trod_int Tryz.underlying3 g11
    obtain ⟨a12, e12, _, w12⟩ := DataW.trod_int Tryz.underlying3 g12
    obtain ⟨a13, e13, _, w13⟩ := DataW.trod_int Tryz.underlying3 g13
    obtain ⟨a14, e14, _, w14⟩ := DataW.trod_int Tryz.underlying3 g14
    obtain ⟨a15, e15, _, w15⟩ := DataW.trod_int Tryz.underlying3 g15
    obtain ⟨a16, e16, _, w16⟩ := DataW.trod_int Tryz.underlying3 g16
    obtain ⟨a17, e17, _, w17⟩ := DataW.trod_int Tryz.underlying3 g17
    simp [kc_int, kc_string] at e0 e1 e2 e3 e7 e8 e9 e10 e11 e12 e13 e14 e15 e16 e17
    subst e0 e1 e2 e3 e7 e8 e9 e10 e11 e12 e13 e14 e15 e16 e17
    simp [kc_pts] at g4
    simp [kc_Band] at g5
    obtain ⟨ys, m', _, _, _, hlen2, hg2⟩ := DataW.trod_struct Tryz.underlying96 g5
    have b5 := (hg2 0 _ rfl).trans (List.getElem?_eq_getElem (by rw [hlen2]; decide))
    simp [kc_pts] at b5
    have b6 := (hg2 1 _ rfl).trans (List.getElem?_eq_getElem (by rw [hlen2]; decide))
    simp [kc_pts] at b6
    obtain ⟨A4, m4, q4, rfl⟩ := slice_form Tryz.underlying87 g4
    obtain ⟨A, q, l4, e, hr4, h4, z4, -, -⟩ := open_rowsT (Good := fun _ : Sp => True) spc_length (by omega) Tryz.underlying87 kc_Point dec_point g4
    cases e
    obtain ⟨A5, m5, q5, rfl⟩ := slice_form Tryz.underlying87 b5
    obtain ⟨A, q, l5, e, hr5, h5, z5, -, -⟩ := open_rowsT (Good := fun _ : Sp => True) spc_length (by omega) Tryz.underlying87 kc_Point dec_point b5
    cases e
    obtain ⟨A6, m6, q6, rfl⟩ := slice_form Tryz.underlying87 b6
    obtain ⟨A, q, l6, e, hr6, h6, z6, -, -⟩ := open_rowsT (Good := fun _ : Sp => True) spc_length (by omega) Tryz.underlying87 kc_Point dec_point b6
    cases e
    exact ⟨⟨a0, a1, a2, a3, A4, q4, l4, A5, q5, l5, A6, q6, l6, a7, a8, a9, a10, a11, a12, a13, a14, a15, a16, a17⟩, rfl, sz_of w0, ⟨by show l4.length ≤ _; omega, by show l5.length ≤ _; omega, by show l6.length ≤ _; omega⟩, hr4, hr5, hr6⟩
theorem dec_town (n : Nat) (cs : List Value) (y : DataW H × List MemPlace) (h : DataW.trod enc Tryz.prog w base spare held n 100 cs = some y) (hl : cs.length = 7) : ∃ x : Tw, twc x = cs ∧ (fun x : Tw => x.nm.size ≤ 9223372036854775807) x := by
  match cs, hl with
  | [c0, c1, c2, c3, c4, c5, c6], _ =>
    obtain ⟨xs, n', _, _, _, hlen, hg⟩ := DataW.trod_struct Tryz.underlying100 h
    have g0 := (hg 0 _ rfl).trans (List.getElem?_eq_getElem (by rw [hlen]; decide))
    have g1 := (hg 1 _ rfl).trans (List.getElem?_eq_getElem (by rw [hlen]; decide))
    have g2 := (hg 2 _ rfl).trans (List.getElem?_eq_getElem (by rw [hlen]; decide))
    have g3 := (hg 3 _ rfl).trans (List.getElem?_eq_getElem (by rw [hlen]; decide))
    have g4 := (hg 4 _ rfl).trans (List.getElem?_eq_getElem (by rw [hlen]; decide))
    have g5 := (hg 5 _ rfl).trans (List.getElem?_eq_getElem (by rw [hlen]; decide))
    have g6 := (hg 6 _ rfl).trans (List.getElem?_eq_getElem (by rw [hlen]; decide))
    obtain ⟨a0, e0, _, w0⟩ := DataW.trod_string Tryz.underlying9 g0
    obtain ⟨a1, e1, _, w1⟩ := DataW.trod_int Tryz.underlying3 g1
    obtain ⟨a2, e2, _, w2⟩ := DataW.trod_int Tryz.underlying3 g2
    obtain ⟨a3, e3, _, w3⟩ := DataW.trod_int Tryz.underlying3 g3
    obtain ⟨a4, e4, _, w4⟩ := DataW.trod_int Tryz.underlying3 g4
    obtain ⟨a5, e5, _, w5⟩ := DataW.trod_int Tryz.underlying3 g5
    obtain ⟨a6, e6, _, w6⟩ := DataW.trod_int Tryz.underlying3 g6
    simp [kc_int, kc_string] at e0 e1 e2 e3 e4 e5 e6
    subst e0 e1 e2 e3 e4 e5 e6
    exact ⟨⟨a0, a1, a2, a3, a4, a5, a6⟩, rfl, sz_of w0⟩
theorem dec_gauge (n : Nat) (cs : List Value) (y : DataW H × List MemPlace) (h : DataW.trod enc Tryz.prog w base spare held n 102 cs = some y) (hl : cs.length = 5) : ∃ x : Gg, ggc x = cs ∧ (fun x : Gg => x.nm.size ≤ 9223372036854775807) x := by
  match cs, hl with
  | [c0, c1, c2, c3, c4], _ =>
    obtain ⟨xs, n', _, _, _, hlen, hg⟩ := DataW.trod_struct Tryz.underlying102 h
    have g0 := (hg 0 _ rfl).trans (List.getElem?_eq_getElem (by rw [hlen]; decide))
    have g1 := (hg 1 _ rfl).trans (List.getElem?_eq_getElem (by rw [hlen]; decide))
    have g2 := (hg 2 _ rfl).trans (List.getElem?_eq_getElem (by rw [hlen]; decide))
    have g3 := (hg 3 _ rfl).trans (List.getElem?_eq_getElem (by rw [hlen]; decide))
    have g4 := (hg 4 _ rfl).trans (List.getElem?_eq_getElem (by rw [hlen]; decide))
    obtain ⟨a0, e0, _, w0⟩ := DataW.trod_string Tryz.underlying9 g0
    obtain ⟨a1, e1, _, w1⟩ := DataW.trod_int Tryz.underlying3 g1
    obtain ⟨a2, e2, _, w2⟩ := DataW.trod_int Tryz.underlying3 g2
    obtain ⟨a3, e3, _, w3⟩ := DataW.trod_int Tryz.underlying3 g3
    obtain ⟨a4, e4, _, w4⟩ := DataW.trod_int Tryz.underlying3 g4
    simp [kc_int, kc_string] at e0 e1 e2 e3 e4
    subst e0 e1 e2 e3 e4
    exact ⟨⟨a0, a1, a2, a3, a4⟩, rfl, sz_of w0⟩
theorem dec_road (n : Nat) (cs : List Value) (y : DataW H × List MemPlace) (h : DataW.trod enc Tryz.prog w base spare held n 166 cs = some y) (hl : cs.length = 7) : ∃ x : Rv, rvc x = cs ∧ (fun x : Rv => x.nm.size ≤ 9223372036854775807) x := by
  match cs, hl with
  | [c0, c1, c2, c3, c4, c5, c6], _ =>
    obtain ⟨xs, n', _, _, _, hlen, hg⟩ := DataW.trod_struct Tryz.underlying166 h
    have g0 := (hg 0 _ rfl).trans (List.getElem?_eq_getElem (by rw [hlen]; decide))
    have g1 := (hg 1 _ rfl).trans (List.getElem?_eq_getElem (by rw [hlen]; decide))
    have g2 := (hg 2 _ rfl).trans (List.getElem?_eq_getElem (by rw [hlen]; decide))
    have g3 := (hg 3 _ rfl).trans (List.getElem?_eq_getElem (by rw [hlen]; decide))
    have g4 := (hg 4 _ rfl).trans (List.getElem?_eq_getElem (by rw [hlen]; decide))
    have g5 := (hg 5 _ rfl).trans (List.getElem?_eq_getElem (by rw [hlen]; decide))
    have g6 := (hg 6 _ rfl).trans (List.getElem?_eq_getElem (by rw [hlen]; decide))
    obtain ⟨a0, e0, _, w0⟩ := DataW.trod_string Tryz.underlying9 g0
    obtain ⟨a1, e1, _, w1⟩ := DataW.trod_int Tryz.underlying3 g1
    obtain ⟨a2, e2, _, w2⟩ := DataW.trod_int Tryz.underlying3 g2
    obtain ⟨a3, e3, _, w3⟩ := DataW.trod_int Tryz.underlying3 g3
    obtain ⟨a4, e4, _, w4⟩ := DataW.trod_int Tryz.underlying3 g4
    obtain ⟨a5, e5, _, w5⟩ := DataW.trod_int Tryz.underlying3 g5
    obtain ⟨a6, e6, _, w6⟩ := DataW.trod_int Tryz.underlying3 g6
    simp [kc_int, kc_string] at e0 e1 e2 e3 e4 e5 e6
    subst e0 e1 e2 e3 e4 e5 e6
    exact ⟨⟨a0, a1, a2, a3, a4, a5, a6⟩, rfl, sz_of w0⟩
theorem dec_shelter (n : Nat) (cs : List Value) (y : DataW H × List MemPlace) (h : DataW.trod enc Tryz.prog w base spare held n 164 cs = some y) (hl : cs.length = 2) : ∃ x : Sh, shc x = cs ∧ (fun x : Sh => x.nm.size ≤ 9223372036854775807) x := by
  match cs, hl with
  | [c0, c1], _ =>
    obtain ⟨xs, n', _, _, _, hlen, hg⟩ := DataW.trod_struct Tryz.underlying164 h
    have g0 := (hg 0 _ rfl).trans (List.getElem?_eq_getElem (by rw [hlen]; decide))
    have g1 := (hg 1 _ rfl).trans (List.getElem?_eq_getElem (by rw [hlen]; decide))
    obtain ⟨a0, e0, _, w0⟩ := DataW.trod_string Tryz.underlying9 g0
    obtain ⟨a1, e1, _, w1⟩ := DataW.trod_int Tryz.underlying3 g1
    simp [kc_int, kc_string] at e0 e1
    subst e0 e1
    exact ⟨⟨a0, a1⟩, rfl, sz_of w0⟩
theorem dec_right (n : Nat) (cs : List Value) (y : DataW H × List MemPlace) (h : DataW.trod enc Tryz.prog w base spare held n 46 cs = some y) (hl : cs.length = 9) : ∃ x : Rt, rtc x = cs ∧ (fun x : Rt => Fit x.id) x := by
  match cs, hl with
  | [c0, c1, c2, c3, c4, c5, c6, c7, c8], _ =>
    obtain ⟨xs, n', _, _, _, hlen, hg⟩ := DataW.trod_struct Tryz.underlying46 h
    have g0 := (hg 0 _ rfl).trans (List.getElem?_eq_getElem (by rw [hlen]; decide))
    have g1 := (hg 1 _ rfl).trans (List.getElem?_eq_getElem (by rw [hlen]; decide))
    have g2 := (hg 2 _ rfl).trans (List.getElem?_eq_getElem (by rw [hlen]; decide))
    have g3 := (hg 3 _ rfl).trans (List.getElem?_eq_getElem (by rw [hlen]; decide))
    have g4 := (hg 4 _ rfl).trans (List.getElem?_eq_getElem (by rw [hlen]; decide))
    have g5 := (hg 5 _ rfl).trans (List.getElem?_eq_getElem (by rw [hlen]; decide))
    have g6 := (hg 6 _ rfl).trans (List.getElem?_eq_getElem (by rw [hlen]; decide))
    have g7 := (hg 7 _ rfl).trans (List.getElem?_eq_getElem (by rw [hlen]; decide))
    have g8 := (hg 8 _ rfl).trans (List.getElem?_eq_getElem (by rw [hlen]; decide))
    obtain ⟨a0, e0, _, w0⟩ := DataW.trod_int Tryz.underlying3 g0
    obtain ⟨a1, e1, _, w1⟩ := DataW.trod_int Tryz.underlying3 g1
    obtain ⟨a2, e2, _, w2⟩ := DataW.trod_int Tryz.underlying3 g2
    obtain ⟨a3, e3, _, w3⟩ := DataW.trod_int Tryz.underlying3 g3
    obtain ⟨a4, e4, _, w4⟩ := DataW.trod_int Tryz.underlying3 g4
    obtain ⟨a5, e5, _, w5⟩ := DataW.trod_int Tryz.underlying3 g5
    obtain ⟨a6, e6, _, w6⟩ := DataW.trod_int Tryz.underlying3 g6
    obtain ⟨a7, e7, _, w7⟩ := DataW.trod_int Tryz.underlying3 g7
    obtain ⟨a8, e8, _, w8⟩ := DataW.trod_int Tryz.underlying3 g8
    simp [kc_int, kc_string] at e0 e1 e2 e3 e4 e5 e6 e7 e8
    subst e0 e1 e2 e3 e4 e5 e6 e7 e8
    exact ⟨⟨a0, a1, a2, a3, a4, a5, a6, a7, a8⟩, rfl, bounds_i64 w0⟩
theorem dec_deal (n : Nat) (cs : List Value) (y : DataW H × List MemPlace) (h : DataW.trod enc Tryz.prog w base spare held n 74 cs = some y) (hl : cs.length = 13) : ∃ x : Dl, dlc x = cs ∧ DlG x := by
  match cs, hl with
  | [c0, c1, c2, c3, c4, c5, c6, c7, c8, c9, c10, c11, c12], _ =>
    obtain ⟨xs, n', _, _, _, hlen, hg⟩ := DataW.trod_struct Tryz.underlying74 h
    have g0 := (hg 0 _ rfl).trans (List.getElem?_eq_getElem (by rw [hlen]; decide))
    have g1 := (hg 1 _ rfl).trans (List.getElem?_eq_getElem (by rw [hlen]; decide))
    have g2 := (hg 2 _ rfl).trans (List.getElem?_eq_getElem (by rw [hlen]; decide))
    have g11 := (hg 3 _ rfl).trans (List.getElem?_eq_getElem (by rw [hlen]; decide))
    have g12 := (hg 4 _ rfl).trans (List.getElem?_eq_getElem (by rw [hlen]; decide))
    obtain ⟨a0, e0, _, w0⟩ := DataW.trod_int Tryz.underlying3 g0
    obtain ⟨a1, e1, _, w1⟩ := DataW.trod_int Tryz.underlying3 g1
    obtain ⟨a11, e11, _, w11⟩ := DataW.trod_int Tryz.underlying3 g11
    obtain ⟨a12, e12, _, w12⟩ := DataW.trod_int Tryz.underlying3 g12
    simp [kc_int, kc_string] at e0 e1 e11 e12
    subst e0 e1 e11 e12
    simp [kc_Right] at g2
    obtain ⟨r2, er, fr⟩ := dec_right _ _ _ g2 rfl
    simp [rtc] at er
    obtain ⟨rfl, rfl, rfl, rfl, rfl, rfl, rfl, rfl, rfl⟩ := er
    exact ⟨⟨a0, a1, r2, a11, a12⟩, rfl, fr⟩
theorem dec_string (n : Nat) (cs : List Value) (y : DataW H × List MemPlace) (h : DataW.trod enc Tryz.prog w base spare held n 9 cs = some y) (hl : cs.length = 1) : ∃ x : ByteArray, ovc x = cs ∧ x.size ≤ 9223372036854775807 := by
  obtain ⟨s, e, _, hs⟩ := DataW.trod_string Tryz.underlying9 h
  exact ⟨s, e.symm, hs⟩
theorem open_places {n : Nat} {v : Value} {y : DataW H × List MemPlace} (h : DataW.trod enc Tryz.prog w base spare held n 23 [v] = some y) :
    ∃ (A : Option Addr) (c : Nat) (xs : List Pl), v = .slice A xs.length c ∧ Rd w A (xs.flatMap plc) ∧ xs.length ≤ 9223372036854775807 ∧ ∀ x ∈ xs, PlG w x := by
  obtain ⟨A, m, c, rfl⟩ := slice_form Tryz.underlying23 h
  obtain ⟨A, c, xs, e, hr, h1, h2, h3, h4⟩ := open_rowsT (K := 12) (f := plc) (Good := PlG w) plc_length (by omega) Tryz.underlying23 kc_Place dec_place h
  exact ⟨A, c, xs, e, hr, by omega, h4⟩
theorem open_links {n : Nat} {v : Value} {y : DataW H × List MemPlace} (h : DataW.trod enc Tryz.prog w base spare held n 24 [v] = some y) :
    ∃ (A : Option Addr) (c : Nat) (xs : List Lk), v = .slice A xs.length c ∧ Rd w A (xs.flatMap lkc) ∧ xs.length ≤ 9223372036854775807 ∧ ∀ x ∈ xs, LkG w x := by
  obtain ⟨A, m, c, rfl⟩ := slice_form Tryz.underlying24 h
  obtain ⟨A, c, xs, e, hr, h1, h2, h3, h4⟩ := open_rowsT (K := 18) (f := lkc) (Good := LkG w) (fun _ => rfl) (by omega) Tryz.underlying24 kc_Link dec_link h
  exact ⟨A, c, xs, e, hr, by omega, h4⟩
theorem open_towns {n : Nat} {v : Value} {y : DataW H × List MemPlace} (h : DataW.trod enc Tryz.prog w base spare held n 25 [v] = some y) :
    ∃ (A : Option Addr) (c : Nat) (xs : List Tw), v = .slice A xs.length c ∧ Rd w A (xs.flatMap twc) ∧ xs.length ≤ 9223372036854775807 ∧ ∀ x ∈ xs, (fun x : Tw => x.nm.size ≤ 9223372036854775807) x := by
  obtain ⟨A, m, c, rfl⟩ := slice_form Tryz.underlying25 h
  obtain ⟨A, c, xs, e, hr, h1, h2, h3, h4⟩ := open_rowsT (K := 7) (f := twc) (Good := (fun x : Tw => x.nm.size ≤ 9223372036854775807)) (fun _ => rfl) (by omega) Tryz.underlying25 kc_Town dec_town h
  exact ⟨A, c, xs, e, hr, by omega, h4⟩
theorem open_gauges {n : Nat} {v : Value} {y : DataW H × List MemPlace} (h : DataW.trod enc Tryz.prog w base spare held n 26 [v] = some y) :
    ∃ (A : Option Addr) (c : Nat) (xs : List Gg), v = .slice A xs.length c ∧ Rd w A (xs.flatMap ggc) ∧ xs.length ≤ 9223372036854775807 ∧ ∀ x ∈ xs, (fun x : Gg => x.nm.size ≤ 9223372036854775807) x := by
  obtain ⟨A, m, c, rfl⟩ := slice_form Tryz.underlying26 h
  obtain ⟨A, c, xs, e, hr, h1, h2, h3, h4⟩ := open_rowsT (K := 5) (f := ggc) (Good := (fun x : Gg => x.nm.size ≤ 9223372036854775807)) (fun _ => rfl) (by omega) Tryz.underlying26 kc_Gauge dec_gauge h
  exact ⟨A, c, xs, e, hr, by omega, h4⟩
theorem open_roads {n : Nat} {v : Value} {y : DataW H × List MemPlace} (h : DataW.trod enc Tryz.prog w base spare held n 27 [v] = some y) :
    ∃ (A : Option Addr) (c : Nat) (xs : List Rv), v = .slice A xs.length c ∧ Rd w A (xs.flatMap rvc) ∧ xs.length ≤ 9223372036854775807 ∧ ∀ x ∈ xs, (fun x : Rv => x.nm.size ≤ 9223372036854775807) x := by
  obtain ⟨A, m, c, rfl⟩ := slice_form Tryz.underlying27 h
  obtain ⟨A, c, xs, e, hr, h1, h2, h3, h4⟩ := open_rowsT (K := 7) (f := rvc) (Good := (fun x : Rv => x.nm.size ≤ 9223372036854775807)) (fun _ => rfl) (by omega) Tryz.underlying27 kc_Road dec_road h
  exact ⟨A, c, xs, e, hr, by omega, h4⟩
theorem open_shelters {n : Nat} {v : Value} {y : DataW H × List MemPlace} (h : DataW.trod enc Tryz.prog w base spare held n 28 [v] = some y) :
    ∃ (A : Option Addr) (c : Nat) (xs : List Sh), v = .slice A xs.length c ∧ Rd w A (xs.flatMap shc) ∧ xs.length ≤ 9223372036854775807 ∧ ∀ x ∈ xs, (fun x : Sh => x.nm.size ≤ 9223372036854775807) x := by
  obtain ⟨A, m, c, rfl⟩ := slice_form Tryz.underlying28 h
  obtain ⟨A, c, xs, e, hr, h1, h2, h3, h4⟩ := open_rowsT (K := 2) (f := shc) (Good := (fun x : Sh => x.nm.size ≤ 9223372036854775807)) (fun _ => rfl) (by omega) Tryz.underlying28 kc_Shelter dec_shelter h
  exact ⟨A, c, xs, e, hr, by omega, h4⟩
theorem open_strings {n : Nat} {v : Value} {y : DataW H × List MemPlace} (h : DataW.trod enc Tryz.prog w base spare held n 22 [v] = some y) :
    ∃ (A : Option Addr) (c : Nat) (xs : List ByteArray), v = .slice A xs.length c ∧ Rd w A (xs.flatMap ovc) ∧ xs.length ≤ 9223372036854775807 ∧ ∀ x ∈ xs, (fun x : ByteArray => x.size ≤ 9223372036854775807) x := by
  obtain ⟨A, m, c, rfl⟩ := slice_form Tryz.underlying22 h
  obtain ⟨A, c, xs, e, hr, h1, h2, h3, h4⟩ := open_rowsT (K := 1) (f := ovc) (Good := (fun x : ByteArray => x.size ≤ 9223372036854775807)) (fun _ => rfl) (by omega) Tryz.underlying22 kc_string dec_string h
  exact ⟨A, c, xs, e, hr, by omega, h4⟩
set_option maxRecDepth 100000 in
theorem open_deals {r : Reach} {b0 : Nat} {v : Value} {d : DataW H} {p : List MemPlace} (hv : Value.okWide Tryz.prog w r b0 32 v) (h : DataW.Trod enc Tryz.prog w base spare held 32 v d p) :
    ∃ (A : Option Addr) (c : Nat) (xs : List Dl), v = .slice A xs.length c ∧ Rd w A (dlCells xs) ∧ xs.length ≤ 9223372036854775807 ∧ ∀ k, k < xs.length → Fit (dl xs k).r.id := by
  obtain ⟨A, c, xs, rfl, hr, h1, h2, h3, h4⟩ := open_rows (Good := DlG) dlc_length (by omega) Tryz.underlying32 kc_Deal dec_deal hv h
  exact ⟨A, c, xs, rfl, hr, by omega, fun k hk => by rw [dl_at hk]; exact h4 _ (List.getElem_mem hk)⟩
/-- what a basin that came in is -/
structure BasIn (v : Value) (w : World) : Prop where
  ex : ∃ (nm : ByteArray) (OA B LA TA GA RDA SA MA : Option Addr) (oc cb lc tc gc rdc sc mc : Nat) (os : List ByteArray) (cells : Int) (ps : List Pl) (ls : List Lk) (ts : List Tw) (gs' : List Gg) (rs : List Rv) (ss : List Sh) (room : List Int) (err : Int),
    v = .agg #[.string nm, .slice OA os.length oc, .int .i64 cells, .slice B ps.length cb, .slice LA ls.length lc, .slice TA ts.length tc, .slice GA gs'.length gc, .slice RDA rs.length rdc, .slice SA ss.length sc, .slice MA room.length mc, .int .i64 err] ∧ BasOk nm OA B LA TA GA RDA SA MA os ps ls ts gs' rs ss room ∧ BasRd OA B LA TA GA RDA SA MA os ps ls ts gs' rs ss room w
set_option maxHeartbeats 2000000 in
set_option maxRecDepth 100000 in
theorem open_basin {r : Reach} {b0 : Nat} {v : Value} {d : DataW H} {p : List MemPlace} (hv : Value.okWide Tryz.prog w r b0 31 v) (h : DataW.Trod enc Tryz.prog w base spare held 31 v d p) : BasIn v w := by
  obtain ⟨cs, rfl, hsz⟩ := okWide_struct Tryz.underlying31 hv
  obtain ⟨l⟩ := cs
  obtain ⟨fuel, hf⟩ := h
  have hl : l.length = 11 := hsz.trans kc_basin
  match l, hl with
  | [c0, c1, c2, c3, c4, c5, c6, c7, c8, c9, c10], _ =>
    obtain ⟨xs, n', _, _, _, hlen, hg⟩ := DataW.trod_struct Tryz.underlying31 hf
    have g0 := (hg 0 _ rfl).trans (List.getElem?_eq_getElem (by rw [hlen]; decide))
    have g1 := (hg 1 _ rfl).trans (List.getElem?_eq_getElem (by rw [hlen]; decide))
    have g2 := (hg 2 _ rfl).trans (List.getElem?_eq_getElem (by rw [hlen]; decide))
    have g3 := (hg 3 _ rfl).trans (List.getElem?_eq_getElem (by rw [hlen]; decide))
    have g4 := (hg 4 _ rfl).trans (List.getElem?_eq_getElem (by rw [hlen]; decide))
    have g5 := (hg 5 _ rfl).trans (List.getElem?_eq_getElem (by rw [hlen]; decide))
    have g6 := (hg 6 _ rfl).trans (List.getElem?_eq_getElem (by rw [hlen]; decide))
    have g7 := (hg 7 _ rfl).trans (List.getElem?_eq_getElem (by rw [hlen]; decide))
    have g8 := (hg 8 _ rfl).trans (List.getElem?_eq_getElem (by rw [hlen]; decide))
    have g9 := (hg 9 _ rfl).trans (List.getElem?_eq_getElem (by rw [hlen]; decide))
    have g10 := (hg 10 _ rfl).trans (List.getElem?_eq_getElem (by rw [hlen]; decide))
    obtain ⟨a0, e0, _, w0⟩ := DataW.trod_string Tryz.underlying9 g0
    obtain ⟨a2, e2, _, w2⟩ := DataW.trod_int Tryz.underlying3 g2
    obtain ⟨a10, e10, _, w10⟩ := DataW.trod_int Tryz.underlying3 g10
    simp [Value.cells, kc_int, kc_string] at e0 e2 e10
    subst e0 e2 e10
    simp [Value.cells, kc_strs] at g1
    obtain ⟨A1, q1, l1, rfl, hr1, z1, G1⟩ := open_strings g1
    simp [Value.cells, kc_sPlace] at g3
    obtain ⟨A3, q3, l3, rfl, hr3, z3, G3⟩ := open_places g3
    simp [Value.cells, kc_sLink] at g4
    obtain ⟨A4, q4, l4, rfl, hr4, z4, G4⟩ := open_links g4
    simp [Value.cells, kc_sTown] at g5
    obtain ⟨A5, q5, l5, rfl, hr5, z5, G5⟩ := open_towns g5
    simp [Value.cells, kc_sGauge] at g6
    obtain ⟨A6, q6, l6, rfl, hr6, z6, G6⟩ := open_gauges g6
    simp [Value.cells, kc_sRoad] at g7
    obtain ⟨A7, q7, l7, rfl, hr7, z7, G7⟩ := open_roads g7
    simp [Value.cells, kc_sShelter] at g8
    obtain ⟨A8, q8, l8, rfl, hr8, z8, G8⟩ := open_shelters g8
    simp [Value.cells, kc_ints] at g9
    obtain ⟨A9, m9, q9, rfl⟩ := slice_form Tryz.underlying29 g9
    obtain ⟨A, q, l9, e, hr9, z9, y9, -, -⟩ := open_cell_ints Tryz.underlying29 Tryz.underlying3 kc_int g9
    cases e
    exact ⟨a0, A1, A3, A4, A5, A6, A7, A8, A9, q1, q3, q4, q5, q6, q7, q8, q9, l1, a2, l3, l4, l5, l6, l7, l8, l9, a10, rfl,
      ⟨sz_of w0, G1, fun x hx => (G3 x hx).nz, fun x hx => (G4 x hx).nz, G5, G8, G6, G7, fun x hx => (G3 x hx).ln, fun x hx => (G4 x hx).ln, z7, z8, by omega⟩,
      ⟨hr1, ⟨hr3, fun x hx => (G3 x hx).lev, fun x hx => (G3 x hx).sta, fun x hx => (G3 x hx).rai⟩, ⟨hr4, fun x hx => (G4 x hx).rate, fun x hx => (G4 x hx).lo, fun x hx => (G4 x hx).hi⟩, hr5, hr6, hr7, hr8, hr9⟩⟩
end
end Go.Proofs.YtngjakahanmepaaGreatDoor.Opn
