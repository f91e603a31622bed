/- Part 21 of the proof of TopRights: basin.rightTowns. basin.rightRoads. basin.rightGauges. slices.Clone, ContainsFunc at ints, reach.Route. Printed by wip/tools/mkpw.py. -/
import Derived.Test.YtngjakahanmepaaGreatDoorM17
import Derived.Test.YtngjakahanmepaaGreatDoorM09
import Derived.Lib.SliceRun
namespace Go.Proofs.YtngjakahanmepaaGreatDoor
open Go.RowKit
set_option linter.unusedVariables false
set_option linter.unusedSimpArgs false
def townB (n : Nat) (x : Tw) : Bool := idxB x.pla n && volB x.flo && inB x.lead 0 24 && inB x.peo 0 1073741824 && volB x.wat && inB x.quo 0 128
def shelB (x : Sh) : Bool := inB x.room 0 1073741824
set_option maxHeartbeats 32000000 in
set_option maxRecDepth 100000 in
theorem towns_is (d0 d1 d2 d4 d6 d7 d9 d10 : Value) (B TA SA : Option Addr) (n cb tc sc : Nat) (ts : List Tw) (ss : List Sh) (hn : n ≤ 9223372036854775807) (htn : ts.length ≤ 9223372036854775807) (hsn : ss.length ≤ 9223372036854775807) (w : World) (ht : Rd w TA (ts.flatMap twc)) (hs : Rd w SA (ss.flatMap shc)) :
    Calls Tryz.prog 41 #[.agg #[d0, d1, d2, .slice B n cb, d4, .slice TA ts.length tc, d6, d7, .slice SA ss.length sc, d9, d10]] w fun e w' => e = .returned (.bool (ts.all (townB n) && ss.all shelB)) ∧ Below w.heap.size w w' := by
  have HBT := Lib.hid (fun (k : Nat) (hk : k < ts.length) (h : townB n ts[k] = false) => (show (ts.all (townB n) && ss.all shelB) = false by rw [all_bad hk h]; rfl))
  have HBS := Lib.hid (fun (k : Nat) (hk : k < ss.length) (h : shelB ss[k] = false) => (show (ts.all (townB n) && ss.all shelB) = false by rw [all_bad hk h, Bool.and_false]))
  have HGO := Lib.hid (fun (h1 : ts.all (townB n) = true) (h2 : ss.all shelB = true) => (show (ts.all (townB n) && ss.all shelB) = true by rw [h1, h2]; rfl))
  obtain ⟨R, hR⟩ : ∃ b, (ts.all (townB n) && ss.all shelB) = b := ⟨_, rfl⟩
  rw [hR] at HBT HBS HGO ⊢
  clear hR
  go_enter Tryz.func41, Tryz.ntmps41
  go_upto_region 1 with fail
  refine wp_rebase _ (fun V hV x0 => ?_)
  have HB0 := Lib.hid (show Below w.heap.size w V by rw [hV]; exact bel_alloc (Below.refl _ _) _)
  have HBB := Lib.hid (show V.rangeAt w.heap.size 0 [d0, d1, d2, .slice B n cb, d4, .slice TA ts.length tc, d6, d7, .slice SA ss.length sc, d9, d10] by rw [hV]; exact range_new _ _ [d0, d1, d2, .slice B n cb, d4, .slice TA ts.length tc, d6, d7, .slice SA ss.length sc, d9, d10])
  have HT := Lib.hid (ht.below (Nat.le_refl _) HB0.out)
  have HS := Lib.hid (hs.below (Nat.le_refl _) HB0.out)
  clear hV ht hs
  have b3 := fun z : BelW V => (show z.w.cell? ⟨w.heap.size, 3, none⟩ = some (.slice B n cb) from BelW.range HBB.out z 3 _ rfl)
  have b5 := fun z : BelW V => (show z.w.cell? ⟨w.heap.size, 5, none⟩ = some (.slice TA ts.length tc) from BelW.range HBB.out z 5 _ rfl)
  have b8 := fun z : BelW V => (show z.w.cell? ⟨w.heap.size, 8, none⟩ = some (.slice SA ss.length sc) from BelW.range HBB.out z 8 _ rfl)
  have HG := Lib.hid (fun z : BelW V => (show Below w.heap.size w z.w from below_next HB0.out z.2))
  go_wp2_with fail
  go_loopw [10] (fun s10 wr => AllR V (townB n) ts s10 wr) (fun i _ => ts.length - (intOf i).toNat)
  case atStart => exact ⟨0, by omega, rfl, Lib.hid (all_none _ _), x0, rfl⟩
  case round =>
    obtain ⟨k, hk, rfl, hal, y, rfl⟩ := hrel
    have HAL := Lib.hid hal.out
    clear hal
    by_cases hlt : k < ts.length
    case neg =>
      have i4 : decide ((k : Int) < (ts.length : Int)) = false := decide_eq_false (by omega)
      obtain rfl : k = ts.length := by omega
      have HT1 := Lib.hid (all_end HAL.out)
      clear HAL
      go_wp2_with fail
      go_loopw [55] (fun s55 wr => AllR V shelB ss s55 wr) (fun i _ => ss.length - (intOf i).toNat)
      case atStart => exact ⟨0, by omega, rfl, Lib.hid (all_none _ _), y, rfl⟩
      case round =>
        obtain ⟨k, hk, rfl, hal, y, rfl⟩ := hrel
        have HAL := Lib.hid hal.out
        clear hal
        by_cases hlt : k < ss.length
        case neg =>
          have i5 : decide ((k : Int) < (ss.length : Int)) = false := decide_eq_false (by omega)
          obtain rfl : k = ss.length := by omega
          have hr := HGO.out HT1.out (all_end HAL.out)
          subst hr
          clear HAL HGO HBS HBT
          go_wp2_with fail
          go_ret
          exact ⟨rfl, HG.out y⟩
        have i5 : decide ((k : Int) < (ss.length : Int)) = true := decide_eq_true (by omega)
        have j1 : (0 : Int) ≤ (k : Int) := by omega
        have j2 : (k : Int) < (ss.length : Int) := by omega
        obtain ⟨rd, rb0, ro, rfl, hbs, hE, hrt⟩ := Rd.row shc 2 (fun _ => rfl) (by omega) (HS.out.bel y) hlt
        have HNX := Lib.hid (fun h => all_next hlt HAL.out h)
        have HBD := Lib.hid (HBS.out k hlt)
        obtain ⟨X, hX⟩ : ∃ X, ss[k] = X := ⟨_, rfl⟩
        rw [hX] at hrt HNX HBD
        clear hX hbs
        obtain ⟨nm, room⟩ := X
        have HRG := Lib.hid (show y.w.rangeAt rb0 ro [.string nm, .int .i64 room] from hrt)
        clear hrt
        go_upto_region 10 with (first
          | (with_reducible refine wpList_load_g 164 _ (by with_reducible rfl) rb0 ro (by with_unfolding_all rfl) (by with_unfolding_all rfl) _ _ HRG.out Tryz.underlying164 (by with_unfolding_all rfl) (by kernel_rfl) ?_)
          | (with_reducible refine wpList_store_new (z := [.string ⟨#[]⟩, .int .i64 0]) (cs := [.string nm, .int .i64 room]) 164 _ _ (by with_reducible rfl) (by with_unfolding_all rfl) y.w.heap.size (by with_reducible rfl) _ (by with_unfolding_all rfl) (by with_unfolding_all rfl) (by with_unfolding_all rfl) (by kernel_rfl) (by with_unfolding_all rfl) ?_))
        refine wp_rebase _ (fun X hX x1 => ?_)
        have hbX : Below y.w.heap.size y.w X := by rw [hX]; exact bel_alloc (Below.refl _ _) _
        have HUP := Lib.hid (fun z : BelW X => (show Below V.heap.size V z.w from below_next (below_next y.2 hbX) z.2))
        have HN := Lib.hid (show X.rangeAt y.w.heap.size 0 [.string nm, .int .i64 room] by rw [hX]; exact range_new y.w 164 [.string nm, .int .i64 room])
        obtain ⟨nb, hnb⟩ : ∃ n, y.w.heap.size = n := ⟨_, rfl⟩
        rw [hnb] at HN ⊢
        clear hX hnb hbX HRG hE
        have n1 := fun z : BelW X => (show z.w.cell? ⟨nb, 1, none⟩ = some (.int .i64 room) from BelW.range HN.out z 1 _ rfl)
        have CI := Lib.hid (fun (z : BelW X) (n lo hi : Int) => bel_of (x := z) (in_is n lo hi z.w))
        go_wp2_with (first | (go_at_call 74; (with_reducible refine (CI.out _ _ _ _).mono ?_); rintro e w1 ⟨rfl, z, rfl⟩; generalize hq : inB _ _ _ = b; cases b))
        · have hr := HBD.out hq
          subst hr
          go_ret
          exact ⟨rfl, HG.out ⟨z.w, HUP.out z⟩⟩
        · have HN2 := Lib.hid (HNX.out hq)
          go_roundw
          case rel => exact ⟨k + 1, by omega, by go_num, Lib.hid HN2.out, ⟨z.w, HUP.out z⟩, rfl⟩
          case measure => simp [intOf]; omega
    have i4 : decide ((k : Int) < (ts.length : Int)) = true := decide_eq_true (by omega)
    have j1 : (0 : Int) ≤ (k : Int) := by omega
    have j2 : (k : Int) < (ts.length : Int) := by omega
    obtain ⟨rd, rb0, ro, rfl, hbs, hE, hrt⟩ := Rd.row twc 7 (fun _ => rfl) (by omega) (HT.out.bel y) hlt
    have HNX := Lib.hid (fun h => all_next hlt HAL.out h)
    have HBD := Lib.hid (HBT.out k hlt)
    obtain ⟨X, hX⟩ : ∃ X, ts[k] = X := ⟨_, rfl⟩
    rw [hX] at hrt HNX HBD
    clear hX hbs
    obtain ⟨nm, pla, flo, lead, peo, wat, quo⟩ := X
    have HRG := Lib.hid (show y.w.rangeAt rb0 ro [.string nm, .int .i64 pla, .int .i64 flo, .int .i64 lead, .int .i64 peo, .int .i64 wat, .int .i64 quo] from hrt)
    clear hrt
    go_upto_region 4 with (first
      | (with_reducible refine wpList_load_g 100 _ (by with_reducible rfl) rb0 ro (by with_unfolding_all rfl) (by with_unfolding_all rfl) _ _ HRG.out Tryz.underlying100 (by with_unfolding_all rfl) (by kernel_rfl) ?_)
      | (with_reducible refine wpList_store_new (z := [.string ⟨#[]⟩, .int .i64 0, .int .i64 0, .int .i64 0, .int .i64 0, .int .i64 0, .int .i64 0]) (cs := [.string nm, .int .i64 pla, .int .i64 flo, .int .i64 lead, .int .i64 peo, .int .i64 wat, .int .i64 quo]) 100 _ _ (by with_reducible rfl) (by with_unfolding_all rfl) y.w.heap.size (by with_reducible rfl) _ (by with_unfolding_all rfl) (by with_unfolding_all rfl) (by with_unfolding_all rfl) (by kernel_rfl) (by with_unfolding_all rfl) ?_))
    refine wp_rebase _ (fun X hX x1 => ?_)
    have hbX : Below y.w.heap.size y.w X := by rw [hX]; exact bel_alloc (Below.refl _ _) _
    have HUP := Lib.hid (fun z : BelW X => (show Below V.heap.size V z.w from below_next (below_next y.2 hbX) z.2))
    have HN := Lib.hid (show X.rangeAt y.w.heap.size 0 [.string nm, .int .i64 pla, .int .i64 flo, .int .i64 lead, .int .i64 peo, .int .i64 wat, .int .i64 quo] by rw [hX]; exact range_new y.w 100 [.string nm, .int .i64 pla, .int .i64 flo, .int .i64 lead, .int .i64 peo, .int .i64 wat, .int .i64 quo])
    obtain ⟨nb, hnb⟩ : ∃ n, y.w.heap.size = n := ⟨_, rfl⟩
    rw [hnb] at HN ⊢
    have b3 := fun z : BelW X => (show z.w.cell? ⟨w.heap.size, 3, none⟩ = some (.slice B n cb) from BelW.range HBB.out ⟨z.w, HUP.out z⟩ 3 _ rfl)
    clear hX hnb hbX HRG hE
    have n1 := fun z : BelW X => (show z.w.cell? ⟨nb, 1, none⟩ = some (.int .i64 pla) from BelW.range HN.out z 1 _ rfl)
    have n2 := fun z : BelW X => (show z.w.cell? ⟨nb, 2, none⟩ = some (.int .i64 flo) from BelW.range HN.out z 2 _ rfl)
    have n3 := fun z : BelW X => (show z.w.cell? ⟨nb, 3, none⟩ = some (.int .i64 lead) from BelW.range HN.out z 3 _ rfl)
    have n4 := fun z : BelW X => (show z.w.cell? ⟨nb, 4, none⟩ = some (.int .i64 peo) from BelW.range HN.out z 4 _ rfl)
    have n5 := fun z : BelW X => (show z.w.cell? ⟨nb, 5, none⟩ = some (.int .i64 wat) from BelW.range HN.out z 5 _ rfl)
    have n6 := fun z : BelW X => (show z.w.cell? ⟨nb, 6, none⟩ = some (.int .i64 quo) from BelW.range HN.out z 6 _ rfl)
    have CI := Lib.hid (fun (z : BelW X) (n lo hi : Int) => bel_of (x := z) (in_is n lo hi z.w))
    have CV := Lib.hid (fun (z : BelW X) (n : Int) => bel_of (x := z) (volume_is n z.w))
    have CX := Lib.hid (fun (z : BelW X) (i : Int) => bel_of (x := z) (bindex_is i n hn z.w))
    go_wp2_with (first
      | (go_at_call 81; (with_reducible refine (CX.out _ _).mono ?_); rintro e w1 ⟨rfl, z, rfl⟩; generalize hq1 : idxB _ _ = b; cases b)
      | (go_at_call 75; (with_reducible refine (CV.out _ _).mono ?_); rintro e w1 ⟨rfl, z, rfl⟩; generalize hq2 : volB _ = b; cases b)
      | (go_at_call 74; (with_reducible refine (CI.out _ _ _ _).mono ?_); rintro e w1 ⟨rfl, z, rfl⟩; generalize hq3 : inB _ _ _ = b; cases b))
    all_goals first
      | (have hr := HBD.out (by simp [townB, *]); subst hr; go_ret; exact ⟨rfl, HG.out ⟨z.w, HUP.out z⟩⟩)
      | (have HN2 := Lib.hid (HNX.out (by simp [townB, *])); go_roundw <;> first | exact ⟨k + 1, by omega, by go_num, Lib.hid HN2.out, ⟨z.w, HUP.out z⟩, rfl⟩ | (simp [intOf]; omega))
end Go.Proofs.YtngjakahanmepaaGreatDoor
namespace Go.Proofs.YtngjakahanmepaaGreatDoor
open Go.RowKit
set_option linter.unusedVariables false
set_option linter.unusedSimpArgs false
def roadB (tn sn n : Nat) (x : Rv) : Bool := idxB x.fr tn && idxB x.to' (tn + sn) && !(x.fr == x.to') && inB x.hrs 1 24 && inB x.flow 0 1073741824 && volB x.lim && (if x.by' == -1 then x.lim == 0 else idxB x.by' n)
set_option maxHeartbeats 32000000 in
set_option maxRecDepth 100000 in
theorem roads_is (d0 d1 d2 d4 d6 d9 d10 : Value) (B TA SA RA : Option Addr) (n cb tn tc sn sc rc : Nat) (rs : List Rv) (hn : n ≤ 1000) (htn : tn ≤ 1000) (hsn : sn ≤ 1000) (hrn : rs.length ≤ 9223372036854775807) (w : World) (hr : Rd w RA (rs.flatMap rvc)) :
    Calls Tryz.prog 43 #[.agg #[d0, d1, d2, .slice B n cb, d4, .slice TA tn tc, d6, .slice RA rs.length rc, .slice SA sn sc, d9, d10]] w fun e w' => e = .returned (.bool (rs.all (roadB tn sn n))) ∧ Below w.heap.size w w' := by
  have HBT := Lib.hid (fun (k : Nat) (hk : k < rs.length) (h : roadB tn sn n rs[k] = false) => (show rs.all (roadB tn sn n) = false from all_bad hk h))
  have HGO := Lib.hid (fun (h1 : rs.all (roadB tn sn n) = true) => h1)
  obtain ⟨R, hR⟩ : ∃ b, rs.all (roadB tn sn n) = b := ⟨_, rfl⟩
  rw [hR] at HBT ⊢
  have HGO := Lib.hid (fun (h1 : rs.all (roadB tn sn n) = true) => (show R = true from hR ▸ h1))
  clear hR
  go_enter Tryz.func43, Tryz.ntmps43
  go_upto_region 1 with fail
  refine wp_rebase _ (fun V hV x0 => ?_)
  have HB0 := Lib.hid (show Below w.heap.size w V by rw [hV]; exact bel_alloc (Below.refl _ _) _)
  have HBB := Lib.hid (show V.rangeAt w.heap.size 0 [d0, d1, d2, .slice B n cb, d4, .slice TA tn tc, d6, .slice RA rs.length rc, .slice SA sn sc, d9, d10] by rw [hV]; exact range_new _ _ [d0, d1, d2, .slice B n cb, d4, .slice TA tn tc, d6, .slice RA rs.length rc, .slice SA sn sc, d9, d10])
  have HT := Lib.hid (hr.below (Nat.le_refl _) HB0.out)
  clear hV hr
  have b7 := fun z : BelW V => (show z.w.cell? ⟨w.heap.size, 7, none⟩ = some (.slice RA rs.length rc) from BelW.range HBB.out z 7 _ rfl)
  have HG := Lib.hid (fun z : BelW V => (show Below w.heap.size w z.w from below_next HB0.out z.2))
  go_wp2_with fail
  go_loopw [8] (fun s8 wr => AllR V (roadB tn sn n) rs s8 wr) (fun i _ => rs.length - (intOf i).toNat)
  case atStart => exact ⟨0, by omega, rfl, Lib.hid (all_none _ _), x0, rfl⟩
  case round =>
    obtain ⟨k, hk, rfl, hal, y, rfl⟩ := hrel
    have HAL := Lib.hid hal.out
    clear hal
    by_cases hlt : k < rs.length
    case neg =>
      have i4 : decide ((k : Int) < (rs.length : Int)) = false := decide_eq_false (by omega)
      obtain rfl : k = rs.length := by omega
      have hr := HGO.out (all_end HAL.out)
      subst hr
      clear HAL HGO HBT
      go_wp2_with fail
      go_ret
      exact ⟨rfl, HG.out y⟩
    have i4 : decide ((k : Int) < (rs.length : Int)) = true := decide_eq_true (by omega)
    have j1 : (0 : Int) ≤ (k : Int) := by omega
    have j2 : (k : Int) < (rs.length : Int) := by omega
    obtain ⟨rd, rb0, ro, rfl, hbs, hE, hrt⟩ := Rd.row rvc 7 (fun _ => rfl) (by omega) (HT.out.bel y) hlt
    have HNX := Lib.hid (fun h => all_next hlt HAL.out h)
    have HBD := Lib.hid (HBT.out k hlt)
    obtain ⟨X, hX⟩ : ∃ X, rs[k] = X := ⟨_, rfl⟩
    rw [hX] at hrt HNX HBD
    clear hX hbs
    obtain ⟨nm, fr, to', hrs, flow, by', lim⟩ := X
    have HRG := Lib.hid (show y.w.rangeAt rb0 ro [.string nm, .int .i64 fr, .int .i64 to', .int .i64 hrs, .int .i64 flow, .int .i64 by', .int .i64 lim] from hrt)
    clear hrt
    go_upto_region 4 with (first
      | (with_reducible refine wpList_load_g 166 _ (by with_reducible rfl) rb0 ro (by with_unfolding_all rfl) (by with_unfolding_all rfl) _ _ HRG.out Tryz.underlying166 (by with_unfolding_all rfl) (by kernel_rfl) ?_)
      | (with_reducible refine wpList_store_new (z := [.string ⟨#[]⟩, .int .i64 0, .int .i64 0, .int .i64 0, .int .i64 0, .int .i64 0, .int .i64 0]) (cs := [.string nm, .int .i64 fr, .int .i64 to', .int .i64 hrs, .int .i64 flow, .int .i64 by', .int .i64 lim]) 166 _ _ (by with_reducible rfl) (by with_unfolding_all rfl) y.w.heap.size (by with_reducible rfl) _ (by with_unfolding_all rfl) (by with_unfolding_all rfl) (by with_unfolding_all rfl) (by kernel_rfl) (by with_unfolding_all rfl) ?_))
    refine wp_rebase _ (fun X hX x1 => ?_)
    have hbX : Below y.w.heap.size y.w X := by rw [hX]; exact bel_alloc (Below.refl _ _) _
    have HUP := Lib.hid (fun z : BelW X => (show Below V.heap.size V z.w from below_next (below_next y.2 hbX) z.2))
    have HN := Lib.hid (show X.rangeAt y.w.heap.size 0 [.string nm, .int .i64 fr, .int .i64 to', .int .i64 hrs, .int .i64 flow, .int .i64 by', .int .i64 lim] by rw [hX]; exact range_new y.w 166 [.string nm, .int .i64 fr, .int .i64 to', .int .i64 hrs, .int .i64 flow, .int .i64 by', .int .i64 lim])
    obtain ⟨nb, hnb⟩ : ∃ n, y.w.heap.size = n := ⟨_, rfl⟩
    rw [hnb] at HN ⊢
    have b3 := fun z : BelW X => (show z.w.cell? ⟨w.heap.size, 3, none⟩ = some (.slice B n cb) from BelW.range HBB.out ⟨z.w, HUP.out z⟩ 3 _ rfl)
    have b5 := fun z : BelW X => (show z.w.cell? ⟨w.heap.size, 5, none⟩ = some (.slice TA tn tc) from BelW.range HBB.out ⟨z.w, HUP.out z⟩ 5 _ rfl)
    have b8 := fun z : BelW X => (show z.w.cell? ⟨w.heap.size, 8, none⟩ = some (.slice SA sn sc) from BelW.range HBB.out ⟨z.w, HUP.out z⟩ 8 _ rfl)
    clear hX hnb hbX HRG hE
    have n1 := fun z : BelW X => (show z.w.cell? ⟨nb, 1, none⟩ = some (.int .i64 fr) from BelW.range HN.out z 1 _ rfl)
    have n2 := fun z : BelW X => (show z.w.cell? ⟨nb, 2, none⟩ = some (.int .i64 to') from BelW.range HN.out z 2 _ rfl)
    have n3 := fun z : BelW X => (show z.w.cell? ⟨nb, 3, none⟩ = some (.int .i64 hrs) from BelW.range HN.out z 3 _ rfl)
    have n4 := fun z : BelW X => (show z.w.cell? ⟨nb, 4, none⟩ = some (.int .i64 flow) from BelW.range HN.out z 4 _ rfl)
    have n5 := fun z : BelW X => (show z.w.cell? ⟨nb, 5, none⟩ = some (.int .i64 by') from BelW.range HN.out z 5 _ rfl)
    have n6 := fun z : BelW X => (show z.w.cell? ⟨nb, 6, none⟩ = some (.int .i64 lim) from BelW.range HN.out z 6 _ rfl)
    have CI := Lib.hid (fun (z : BelW X) (n lo hi : Int) => bel_of (x := z) (in_is n lo hi z.w))
    have CV := Lib.hid (fun (z : BelW X) (n : Int) => bel_of (x := z) (volume_is n z.w))
    have CX1 := Lib.hid (fun (z : BelW X) (i : Int) => bel_of (x := z) (bindex_is i tn (by omega) z.w))
    have CX2 := Lib.hid (fun (z : BelW X) (i : Int) => (show Calls Tryz.prog 81 #[.int .i64 i, .int .i64 ((tn : Int) + (sn : Int))] z.w fun e w' => e = .returned (.bool (idxB i (tn + sn))) ∧ ∃ y : BelW X, w' = y.w from by
      have := bel_of (x := z) (bindex_is i (tn + sn) (by omega) z.w)
      rwa [Int.natCast_add] at this))
    have CX3 := Lib.hid (fun (z : BelW X) (i : Int) => bel_of (x := z) (bindex_is i n (by omega) z.w))
    by_cases h1 : fr = to' <;> by_cases h2 : by' = -1 <;> by_cases h3 : lim = 0
    all_goals (
      try subst h1
      try subst h2
      try subst h3
      try (have t1 : (fr == to') = false := beq_eq_false_iff_ne.2 h1)
      try (have t2 : (by' == -1) = false := beq_eq_false_iff_ne.2 h2)
      try (have t3 : (lim == 0) = false := beq_eq_false_iff_ne.2 h3))
    all_goals (
      go_wp2_with (first
        | (go_at_call 81; (with_reducible refine (CX1.out _ _).mono ?_); rintro e w1 ⟨rfl, z, rfl⟩; generalize hq1 : idxB _ _ = b; cases b)
        | (go_at_call 81; (with_reducible refine (CX2.out _ _).mono ?_); rintro e w1 ⟨rfl, z, rfl⟩; generalize hq4 : idxB _ _ = b; cases b)
        | (go_at_call 81; (with_reducible refine (CX3.out _ _).mono ?_); rintro e w1 ⟨rfl, z, rfl⟩; generalize hq5 : idxB _ _ = b; cases b)
        | (go_at_call 75; (with_reducible refine (CV.out _ _).mono ?_); rintro e w1 ⟨rfl, z, rfl⟩; generalize hq2 : volB _ = b; cases b)
        | (go_at_call 74; (with_reducible refine (CI.out _ _ _ _).mono ?_); rintro e w1 ⟨rfl, z, rfl⟩; generalize hq3 : inB _ _ _ = b; cases b)))
    all_goals first
      | (have hr := HBD.out (by simp [roadB, *]); subst hr; go_ret; exact ⟨rfl, HG.out ⟨z.w, HUP.out z⟩⟩)
      | (have HN2 := Lib.hid (HNX.out (by simp [roadB, *])); go_roundw <;> first | exact ⟨k + 1, by omega, by go_num, Lib.hid HN2.out, ⟨z.w, HUP.out z⟩, rfl⟩ | (simp [intOf]; omega))
end Go.Proofs.YtngjakahanmepaaGreatDoor
namespace Go.Proofs.YtngjakahanmepaaGreatDoor
open Go.RowKit
set_option linter.unusedVariables false
set_option linter.unusedSimpArgs false
def gaugB (n cn ln : Nat) (x : Gg) : Bool := inB x.kind 0 2 && inB x.err 0 1099511627776 && inB x.drf 0 1440 && (if x.kind = 0 then idxB x.tgt n else if x.kind = 1 then idxB x.tgt cn else idxB x.tgt ln)
theorem kind_out {k : Int} (h0 : ¬ k = 0) (h1 : ¬ k = 1) (h2 : ¬ k = 2) : inB k 0 2 = false := by
  unfold inB
  rw [Bool.and_eq_false_iff, decide_eq_false_iff_not, decide_eq_false_iff_not]
  omega
set_option maxHeartbeats 32000000 in
set_option maxRecDepth 100000 in
theorem gauges_is (d0 d1 d5 d7 d8 d9 d10 : Value) (B LA RA : Option Addr) (n cb cn ln lc rc : Nat) (rs : List Gg) (hn : n ≤ 1000) (hcn : cn ≤ 1000) (hln : ln ≤ 1000) (hrn : rs.length ≤ 9223372036854775807) (w : World) (hr : Rd w RA (rs.flatMap ggc)) :
    Calls Tryz.prog 42 #[.agg #[d0, d1, .int .i64 (cn : Int), .slice B n cb, .slice LA ln lc, d5, .slice RA rs.length rc, d7, d8, d9, d10]] w fun e w' => e = .returned (.bool (rs.all (gaugB n cn ln))) ∧ Below w.heap.size w w' := by
  have HBT := Lib.hid (fun (k : Nat) (hk : k < rs.length) (h : gaugB n cn ln rs[k] = false) => (show rs.all (gaugB n cn ln) = false from all_bad hk h))
  have HGO := Lib.hid (fun (h1 : rs.all (gaugB n cn ln) = true) => h1)
  obtain ⟨R, hR⟩ : ∃ b, rs.all (gaugB n cn ln) = b := ⟨_, rfl⟩
  rw [hR] at HBT ⊢
  have HGO := Lib.hid (fun (h1 : rs.all (gaugB n cn ln) = true) => (show R = true from hR ▸ h1))
  clear hR
  go_enter Tryz.func42, Tryz.ntmps42
  go_upto_region 1 with fail
  refine wp_rebase _ (fun V hV x0 => ?_)
  have HB0 := Lib.hid (show Below w.heap.size w V by rw [hV]; exact bel_alloc (Below.refl _ _) _)
  have HBB := Lib.hid (show V.rangeAt w.heap.size 0 [d0, d1, .int .i64 (cn : Int), .slice B n cb, .slice LA ln lc, d5, .slice RA rs.length rc, d7, d8, d9, d10] by rw [hV]; exact range_new _ _ [d0, d1, .int .i64 (cn : Int), .slice B n cb, .slice LA ln lc, d5, .slice RA rs.length rc, d7, d8, d9, d10])
  have HT := Lib.hid (hr.below (Nat.le_refl _) HB0.out)
  clear hV hr
  have b6 := fun z : BelW V => (show z.w.cell? ⟨w.heap.size, 6, none⟩ = some (.slice RA rs.length rc) from BelW.range HBB.out z 6 _ rfl)
  have HG := Lib.hid (fun z : BelW V => (show Below w.heap.size w z.w from below_next HB0.out z.2))
  go_wp2_with fail
  go_loopw [9] (fun s9 wr => AllR V (gaugB n cn ln) rs s9 wr) (fun i _ => rs.length - (intOf i).toNat)
  case atStart => exact ⟨0, by omega, rfl, Lib.hid (all_none _ _), x0, rfl⟩
  case round =>
    obtain ⟨k, hk, rfl, hal, y, rfl⟩ := hrel
    have HAL := Lib.hid hal.out
    clear hal
    by_cases hlt : k < rs.length
    case neg =>
      have i4 : decide ((k : Int) < (rs.length : Int)) = false := decide_eq_false (by omega)
      obtain rfl : k = rs.length := by omega
      have hr := HGO.out (all_end HAL.out)
      subst hr
      clear HAL HGO HBT
      go_wp2_with fail
      go_ret
      exact ⟨rfl, HG.out y⟩
    have i4 : decide ((k : Int) < (rs.length : Int)) = true := decide_eq_true (by omega)
    have j1 : (0 : Int) ≤ (k : Int) := by omega
    have j2 : (k : Int) < (rs.length : Int) := by omega
    obtain ⟨rd, rb0, ro, rfl, hbs, hE, hrt⟩ := Rd.row ggc 5 (fun _ => rfl) (by omega) (HT.out.bel y) hlt
    have HNX := Lib.hid (fun h => all_next hlt HAL.out h)
    have HBD := Lib.hid (HBT.out k hlt)
    obtain ⟨X, hX⟩ : ∃ X, rs[k] = X := ⟨_, rfl⟩
    rw [hX] at hrt HNX HBD
    clear hX hbs
    obtain ⟨nm, kind, tgt, err, drf⟩ := X
    have HRG := Lib.hid (show y.w.rangeAt rb0 ro [.string nm, .int .i64 kind, .int .i64 tgt, .int .i64 err, .int .i64 drf] from hrt)
    clear hrt
    go_upto_region 4 with (first
      | (with_reducible refine wpList_load_g 102 _ (by with_reducible rfl) rb0 ro (by with_unfolding_all rfl) (by with_unfolding_all rfl) _ _ HRG.out Tryz.underlying102 (by with_unfolding_all rfl) (by kernel_rfl) ?_)
      | (with_reducible refine wpList_store_new (z := [.string ⟨#[]⟩, .int .i64 0, .int .i64 0, .int .i64 0, .int .i64 0]) (cs := [.string nm, .int .i64 kind, .int .i64 tgt, .int .i64 err, .int .i64 drf]) 102 _ _ (by with_reducible rfl) (by with_unfolding_all rfl) y.w.heap.size (by with_reducible rfl) _ (by with_unfolding_all rfl) (by with_unfolding_all rfl) (by with_unfolding_all rfl) (by kernel_rfl) (by with_unfolding_all rfl) ?_))
    refine wp_rebase _ (fun X hX x1 => ?_)
    have hbX : Below y.w.heap.size y.w X := by rw [hX]; exact bel_alloc (Below.refl _ _) _
    have HUP := Lib.hid (fun z : BelW X => (show Below V.heap.size V z.w from below_next (below_next y.2 hbX) z.2))
    have HN := Lib.hid (show X.rangeAt y.w.heap.size 0 [.string nm, .int .i64 kind, .int .i64 tgt, .int .i64 err, .int .i64 drf] by rw [hX]; exact range_new y.w 102 [.string nm, .int .i64 kind, .int .i64 tgt, .int .i64 err, .int .i64 drf])
    obtain ⟨nb, hnb⟩ : ∃ n, y.w.heap.size = n := ⟨_, rfl⟩
    rw [hnb] at HN ⊢
    have b3 := fun z : BelW X => (show z.w.cell? ⟨w.heap.size, 3, none⟩ = some (.slice B n cb) from BelW.range HBB.out ⟨z.w, HUP.out z⟩ 3 _ rfl)
    have b2 := fun z : BelW X => (show z.w.cell? ⟨w.heap.size, 2, none⟩ = some (.int .i64 (cn : Int)) from BelW.range HBB.out ⟨z.w, HUP.out z⟩ 2 _ rfl)
    have b4 := fun z : BelW X => (show z.w.cell? ⟨w.heap.size, 4, none⟩ = some (.slice LA ln lc) from BelW.range HBB.out ⟨z.w, HUP.out z⟩ 4 _ rfl)
    clear hX hnb hbX HRG hE
    have n1 := fun z : BelW X => (show z.w.cell? ⟨nb, 1, none⟩ = some (.int .i64 kind) from BelW.range HN.out z 1 _ rfl)
    have n2 := fun z : BelW X => (show z.w.cell? ⟨nb, 2, none⟩ = some (.int .i64 tgt) from BelW.range HN.out z 2 _ rfl)
    have n3 := fun z : BelW X => (show z.w.cell? ⟨nb, 3, none⟩ = some (.int .i64 err) from BelW.range HN.out z 3 _ rfl)
    have n4 := fun z : BelW X => (show z.w.cell? ⟨nb, 4, none⟩ = some (.int .i64 drf) from BelW.range HN.out z 4 _ rfl)
    have CI := Lib.hid (fun (z : BelW X) (n lo hi : Int) => bel_of (x := z) (in_is n lo hi z.w))
    have CV := Lib.hid (fun (z : BelW X) (n : Int) => bel_of (x := z) (volume_is n z.w))
    have CX1 := Lib.hid (fun (z : BelW X) (i : Int) => bel_of (x := z) (bindex_is i n (by omega) z.w))
    have CX2 := Lib.hid (fun (z : BelW X) (i : Int) => bel_of (x := z) (bindex_is i cn (by omega) z.w))
    have CX3 := Lib.hid (fun (z : BelW X) (i : Int) => bel_of (x := z) (bindex_is i ln (by omega) z.w))
    by_cases h0 : kind = 0
    case pos =>
      subst h0
      go_upto_region 7 with (first
        | (go_at_call 74; (with_reducible refine (CI.out _ _ _ _).mono ?_); rintro e w1 ⟨rfl, z, rfl⟩; generalize hq3 : inB _ _ _ = b; cases b))
      iterate 3 (rotate_left 1)
      · refine wp_rebase _ (fun Y hY x2 => ?_)
        have hbY : Below X.heap.size X Y := by rw [hY]; exact bel_alloc z.2 _
        have HTB := Lib.hid (show Y.rangeAt z.w.heap.size 0 [.int .i64 (n : Int), .int .i64 (cn : Int), .int .i64 (ln : Int)] by rw [hY]; exact range_new z.w _ [.int .i64 (n : Int), .int .i64 (cn : Int), .int .i64 (ln : Int)])
        have HUY := Lib.hid (fun v : BelW Y => (show Below X.heap.size X v.w from below_next hbY v.2))
        obtain ⟨tb, htb⟩ : ∃ n, z.w.heap.size = n := ⟨_, rfl⟩
        rw [htb] at HTB ⊢
        clear hY htb hbY
        have m1 := fun v : BelW Y => (show v.w.cell? ⟨nb, 1, none⟩ = some (.int .i64 0) from n1 ⟨v.w, HUY.out v⟩)
        have m2 := fun v : BelW Y => (show v.w.cell? ⟨nb, 2, none⟩ = some (.int .i64 tgt) from n2 ⟨v.w, HUY.out v⟩)
        have m3 := fun v : BelW Y => (show v.w.cell? ⟨tb, 0, none⟩ = some (.int .i64 (n : Int)) from BelW.range HTB.out v 0 _ rfl)
        have CX := Lib.hid (fun (v : BelW Y) => bel_of (x := v) (bindex_is tgt n (by omega) v.w))
        generalize hq5 : idxB tgt n = b at CX
        refine wp_region_belx (by kernel_rfl) (by kernel_rfl) ?_
        repeat (go_big_quiet_step ((go_at_call 81; with_reducible exact CX.out _)))
        refine wpQuiet_nil ?_
        intro y2
        have HUZ := Lib.hid (HUP.out ⟨y2.w, HUY.out y2⟩)
        cases b
        · have hr := HBD.out (by simp [gaugB, *])
          subst hr
          go_wp2_with fail
          go_ret
          exact ⟨rfl, HG.out ⟨y2.w, HUZ.out⟩⟩
        · have HN2 := Lib.hid (HNX.out (by simp [gaugB, *]))
          go_wp2_with fail
          go_roundw
          case rel => exact ⟨k + 1, by omega, by go_num, Lib.hid HN2.out, ⟨y2.w, HUZ.out⟩, rfl⟩
          case measure => simp [intOf]; omega
      all_goals (have hr := HBD.out (by simp [gaugB, *]); subst hr; go_ret; exact ⟨rfl, HG.out ⟨z.w, HUP.out z⟩⟩)
    by_cases h1 : kind = 1
    case pos =>
      subst h1
      go_upto_region 7 with (first
        | (go_at_call 74; (with_reducible refine (CI.out _ _ _ _).mono ?_); rintro e w1 ⟨rfl, z, rfl⟩; generalize hq3 : inB _ _ _ = b; cases b))
      iterate 3 (rotate_left 1)
      · refine wp_rebase _ (fun Y hY x2 => ?_)
        have hbY : Below X.heap.size X Y := by rw [hY]; exact bel_alloc z.2 _
        have HTB := Lib.hid (show Y.rangeAt z.w.heap.size 0 [.int .i64 (n : Int), .int .i64 (cn : Int), .int .i64 (ln : Int)] by rw [hY]; exact range_new z.w _ [.int .i64 (n : Int), .int .i64 (cn : Int), .int .i64 (ln : Int)])
        have HUY := Lib.hid (fun v : BelW Y => (show Below X.heap.size X v.w from below_next hbY v.2))
        obtain ⟨tb, htb⟩ : ∃ n, z.w.heap.size = n := ⟨_, rfl⟩
        rw [htb] at HTB ⊢
        clear hY htb hbY
        have m1 := fun v : BelW Y => (show v.w.cell? ⟨nb, 1, none⟩ = some (.int .i64 1) from n1 ⟨v.w, HUY.out v⟩)
        have m2 := fun v : BelW Y => (show v.w.cell? ⟨nb, 2, none⟩ = some (.int .i64 tgt) from n2 ⟨v.w, HUY.out v⟩)
        have m3 := fun v : BelW Y => (show v.w.cell? ⟨tb, 1, none⟩ = some (.int .i64 (cn : Int)) from BelW.range HTB.out v 1 _ rfl)
        have CX := Lib.hid (fun (v : BelW Y) => bel_of (x := v) (bindex_is tgt cn (by omega) v.w))
        generalize hq5 : idxB tgt cn = b at CX
        refine wp_region_belx (by kernel_rfl) (by kernel_rfl) ?_
        repeat (go_big_quiet_step ((go_at_call 81; with_reducible exact CX.out _)))
        refine wpQuiet_nil ?_
        intro y2
        have HUZ := Lib.hid (HUP.out ⟨y2.w, HUY.out y2⟩)
        cases b
        · have hr := HBD.out (by simp [gaugB, *])
          subst hr
          go_wp2_with fail
          go_ret
          exact ⟨rfl, HG.out ⟨y2.w, HUZ.out⟩⟩
        · have HN2 := Lib.hid (HNX.out (by simp [gaugB, *]))
          go_wp2_with fail
          go_roundw
          case rel => exact ⟨k + 1, by omega, by go_num, Lib.hid HN2.out, ⟨y2.w, HUZ.out⟩, rfl⟩
          case measure => simp [intOf]; omega
      all_goals (have hr := HBD.out (by simp [gaugB, *]); subst hr; go_ret; exact ⟨rfl, HG.out ⟨z.w, HUP.out z⟩⟩)
    by_cases h2 : kind = 2
    case pos =>
      subst h2
      go_upto_region 7 with (first
        | (go_at_call 74; (with_reducible refine (CI.out _ _ _ _).mono ?_); rintro e w1 ⟨rfl, z, rfl⟩; generalize hq3 : inB _ _ _ = b; cases b))
      iterate 3 (rotate_left 1)
      · refine wp_rebase _ (fun Y hY x2 => ?_)
        have hbY : Below X.heap.size X Y := by rw [hY]; exact bel_alloc z.2 _
        have HTB := Lib.hid (show Y.rangeAt z.w.heap.size 0 [.int .i64 (n : Int), .int .i64 (cn : Int), .int .i64 (ln : Int)] by rw [hY]; exact range_new z.w _ [.int .i64 (n : Int), .int .i64 (cn : Int), .int .i64 (ln : Int)])
        have HUY := Lib.hid (fun v : BelW Y => (show Below X.heap.size X v.w from below_next hbY v.2))
        obtain ⟨tb, htb⟩ : ∃ n, z.w.heap.size = n := ⟨_, rfl⟩
        rw [htb] at HTB ⊢
        clear hY htb hbY
        have m1 := fun v : BelW Y => (show v.w.cell? ⟨nb, 1, none⟩ = some (.int .i64 2) from n1 ⟨v.w, HUY.out v⟩)
        have m2 := fun v : BelW Y => (show v.w.cell? ⟨nb, 2, none⟩ = some (.int .i64 tgt) from n2 ⟨v.w, HUY.out v⟩)
        have m3 := fun v : BelW Y => (show v.w.cell? ⟨tb, 2, none⟩ = some (.int .i64 (ln : Int)) from BelW.range HTB.out v 2 _ rfl)
        have CX := Lib.hid (fun (v : BelW Y) => bel_of (x := v) (bindex_is tgt ln (by omega) v.w))
        generalize hq5 : idxB tgt ln = b at CX
        refine wp_region_belx (by kernel_rfl) (by kernel_rfl) ?_
        repeat (go_big_quiet_step ((go_at_call 81; with_reducible exact CX.out _)))
        refine wpQuiet_nil ?_
        intro y2
        have HUZ := Lib.hid (HUP.out ⟨y2.w, HUY.out y2⟩)
        cases b
        · have hr := HBD.out (by simp [gaugB, *])
          subst hr
          go_wp2_with fail
          go_ret
          exact ⟨rfl, HG.out ⟨y2.w, HUZ.out⟩⟩
        · have HN2 := Lib.hid (HNX.out (by simp [gaugB, *]))
          go_wp2_with fail
          go_roundw
          case rel => exact ⟨k + 1, by omega, by go_num, Lib.hid HN2.out, ⟨y2.w, HUZ.out⟩, rfl⟩
          case measure => simp [intOf]; omega
      all_goals (have hr := HBD.out (by simp [gaugB, *]); subst hr; go_ret; exact ⟨rfl, HG.out ⟨z.w, HUP.out z⟩⟩)
    have hk := kind_out h0 h1 h2
    go_wp2_with (first
      | (go_at_call 74; (with_reducible refine (CI.out _ _ _ _).mono ?_); rintro e w1 ⟨rfl, z, rfl⟩; rw [hk]))
    have hr := HBD.out (by simp [gaugB, hk])
    subst hr
    go_ret
    exact ⟨rfl, HG.out ⟨z.w, HUP.out z⟩⟩
end Go.Proofs.YtngjakahanmepaaGreatDoor
namespace Go.Proofs.YtngjakahanmepaaGreatDoor
open Go.RowKit
set_option linter.unusedVariables false
set_option linter.unusedSimpArgs false
/-! slices.Clone -/
def ClPost (p : List Int) (w : World) (e : Ending) (w' : World) : Prop := ∃ A c, e = .returned (.slice A p.length c) ∧ (A = none → c = 0) ∧ p.length ≤ c ∧ w'.ownsRow w.heap.size 3 1 (.slice A p.length c) p.length (ints p) ∧ Rd w' A (ints p) ∧ Below w.heap.size w w'
set_option maxHeartbeats 4000000 in
theorem clone_any (A : Option Addr) (c : Nat) (p : List Int) (n : Nat) (hp : p.length = n) (hA : A = none → c = 0) (hn : n ≤ 1000) (w : World) (hr : Rd w A (ints p)) :
    Calls Tryz.prog 28 #[.slice A n c] w (ClPost p w) := by
  subst hp
  obtain ⟨i0, hi0, hz0, hz1, hz2⟩ := info_parts info_int2
  have INF := Lib.hid (And.intro hi0 (And.intro hz0 (And.intro hz1 hz2)))
  cases A with
  | none =>
    have hl : p = [] := by
      cases p with
      | nil => rfl
      | cons a l => obtain ⟨ad, e, _⟩ := hr (by simp [ints]); cases e
    subst hl
    have hc := hA rfl
    subst hc
    clear hr hA hn hi0 hz0 hz1 hz2
    have he : ∀ W, (binOp .eql 29 (.slice none 0 0) (.slice none 0 0)).run Tryz.prog W = .ok (.bool true) W := fun W => Lib.run_eql_slice_nil (P := Tryz.prog) W 29 3 none 0 0 0 0 Tryz.underlying29
    show Calls Tryz.prog 28 #[.slice none 0 0] w _
    go_enter Tryz.func28, Tryz.ntmps28
    go_wp2_with fail
    go_ret
    exact ⟨none, 0, rfl, fun _ => rfl, Nat.le_refl _, World.ownsRow_nil _ _ _ _, Rd.nil _ _, Below.refl _ _⟩
  | some ad =>
    have HR := Lib.hid hr
    have he : ∀ W, (binOp .eql 29 (.slice (some ad) p.length c) (.slice none 0 0)).run Tryz.prog W = .ok (.bool false) W := fun W => Lib.run_eql_slice_nil (P := Tryz.prog) W 29 3 (some ad) p.length c 0 0 Tryz.underlying29
    clear hr hA hi0 hz0 hz1 hz2
    go_enter Tryz.func28, Tryz.ntmps28
    go_wp2_with (first | (at_builtin; refine wpList_append_rd _ rfl _ _ _ (by rfl) w.heap.size 3 i0 _ 1 8 Tryz.underlying29 INF.out.1 INF.out.2.1 INF.out.2.2.1 INF.out.2.2.2 rfl (by omega) _ 0 [] (by rfl) (own_empty _ _ (Nat.le_refl _)) (some ad) p.length c (ints p) (by rfl) (fun h => by cases h) (by rw [ints_length, Nat.mul_one]) (HR.out.alloc _) (ints_one p) (by unfold maxLen; omega) (by omega) (by simp) ?_))
    intro v w1 hown hgrow hat
    have hb1 : Below w.heap.size w w1 := (bel_alloc (Below.refl _ _) _).grown hgrow (bel_alloc (Below.refl _ _) _).size (fun k hk => by simp [Value.ownBlock] at hk; omega)
    have hfin : ClPost p w (.returned v) w1 := by
      rcases Nat.eq_zero_or_pos p.length with h0 | h0
      · have hl : p = [] := List.eq_nil_of_length_eq_zero h0
        subst hl
        have hown' := hown
        rcases hown.2 with ⟨rfl, _⟩ | ⟨g, cap, cur, rfl, _⟩
        · exact ⟨_, _, rfl, fun _ => rfl, Nat.le_refl _, World.ownsRow_nil _ _ _ _, Rd.nil _ _, hb1⟩
        · exact ⟨_, _, rfl, (fun h => by cases h), Nat.zero_le _, hown', Rd.nil _ _, hb1⟩
      · obtain ⟨g, cap, rfl, h1, _, _, _, h2⟩ := own_rd2 hown (by omega)
        exact ⟨some ⟨g, 0, none⟩, cap, rfl, (fun h => by cases h), by omega, by simpa using hown, h2, hb1⟩
    have HF := Lib.hid hfin
    clear hown hgrow hat hb1 hfin
    go_wp2_with fail
    go_ret
    exact HF.out
theorem info_load : (Tryz.prog.info? 120).map (fun i => (i.zero, i.size, i.bytes)) = some (some (.agg #[.int .i64 0, .int .i64 0, .slice none 0 0]), 3, 40) := by kernel_rfl
/-! the search for a positive number -/
def AnyPos (p : List Int) : Prop := ∃ j, j < p.length ∧ 0 < gi p j
noncomputable def anyB (p : List Int) : Bool := @decide (AnyPos p) (Classical.propDecidable _)
theorem anyB_iff {p : List Int} : anyB p = true ↔ AnyPos p := by unfold anyB; exact @decide_eq_true_iff _ (Classical.propDecidable _)
theorem pos_any (k : Int) (w : World) : Calls Tryz.prog 122 #[.int .i64 k] w fun e w' => e = .returned (.bool (decide (0 < k))) ∧ w = w' := by
  go_enter Tryz.func122, Tryz.ntmps122
  go_wp2_with fail
  go_ret
  exact ⟨rfl, rfl⟩
def IxPost (p : List Int) (w : World) (e : Ending) (w' : World) : Prop := ∃ r : Int, e = .returned (.int .i64 r) ∧ decide (0 ≤ r) = anyB p ∧ Below w.heap.size w w'
def IxR (V : World) (p : List Int) (s8 : Value) (wr : World) : Prop := ∃ k : Nat, k ≤ p.length ∧ s8 = .int .i64 (k : Int) ∧ Hid (∀ j, j < k → gi p j ≤ 0) ∧ ∃ y : BelW V, wr = y.w
set_option maxHeartbeats 4000000 in
set_option maxRecDepth 100000 in
theorem ixfunc_any (A : Option Addr) (c : Nat) (p : List Int) (hn : p.length ≤ 9223372036854775807) (w : World) (hr : Rd w A (ints p)) :
    Calls Tryz.prog 132 #[.slice A p.length c, .func (.func 122) #[] #[]] w (IxPost p w) := by
  have HR := Lib.hid hr
  clear hr
  go_enter Tryz.func132, Tryz.ntmps132
  go_wp2_with fail
  go_loopw [8] (fun s8 wr => IxR w p s8 wr) (fun i _ => p.length - (intOf i).toNat)
  case atStart => exact ⟨0, by omega, rfl, Lib.hid (fun j hj => absurd hj (Nat.not_lt_zero _)), ⟨w, Below.refl _ _⟩, rfl⟩
  case round =>
    obtain ⟨k, hk, rfl, hall, y, rfl⟩ := hrel
    by_cases hlt : k < p.length
    · have i3 : decide ((k : Int) < (p.length : Int)) = true := decide_eq_true (by omega)
      obtain ⟨ad, u, rfl, hadb, e1, e2⟩ := (HR.out.bel y).at (k := k) (by rw [ints_length]; exact hlt)
      rw [ints_at hlt] at e1
      cases e1
      have j1 : (0 : Int) ≤ (k : Int) := by omega
      have j2 : (k : Int) < (p.length : Int) := by omega
      have HY := Lib.hid (show 0 < gi p k → true = anyB p from fun h => (anyB_iff.2 ⟨k, hlt, h⟩).symm)
      have HN := Lib.hid (show gi p k ≤ 0 → ∀ j, j < k + 1 → gi p j ≤ 0 from fun h j hj => by
        by_cases e : j = k
        · subst e; exact h
        · exact hall.out j (by omega))
      obtain ⟨v, hv⟩ : ∃ v, gi p k = v := ⟨_, rfl⟩
      rw [hv] at e2 HY HN
      have hB : Below w.heap.size w y.w := y.2
      have HC := Lib.hid (pos_any v y.w)
      clear hv
      by_cases v0 : 0 < v
      · have v0' : decide (0 < v) = true := decide_eq_true v0
        rw [v0'] at HC
        have hb := Lib.hid (HY.out v0)
        have hr0 : decide ((0 : Int) ≤ (k : Int)) = true := decide_eq_true (by omega)
        clear v0 HY HN
        go_wp2_with (first | (go_at_call 122; with_reducible refine HC.out.mono ?_; rintro e w' ⟨rfl, rfl⟩))
        go_ret
        exact ⟨_, rfl, by rw [← hb.out]; exact decide_eq_true (by omega), hB⟩
      · have v0' : decide (0 < v) = false := decide_eq_false v0
        rw [v0'] at HC
        have HX := Lib.hid (HN.out (by omega))
        clear v0 HY HN
        go_wp2_with (first | (go_at_call 122; with_reducible refine HC.out.mono ?_; rintro e w' ⟨rfl, rfl⟩))
        go_roundw
        case rel => exact ⟨k + 1, by omega, by go_num, HX, y, rfl⟩
        case measure => simp [intOf]; omega
    · have i3 : decide ((k : Int) < (p.length : Int)) = false := decide_eq_false (by omega)
      obtain rfl : k = p.length := by omega
      have hB : Below w.heap.size w y.w := y.2
      have HX := Lib.hid (show false = anyB p from by
        cases h : anyB p with
        | false => rfl
        | true => obtain ⟨j, hj, hp⟩ := anyB_iff.1 h; have := hall.out j hj; omega)
      clear hall
      go_wp2_with fail
      go_ret
      exact ⟨_, rfl, by rw [← HX.out]; rfl, hB⟩
set_option maxHeartbeats 4000000 in
theorem contains_any (A : Option Addr) (c : Nat) (p : List Int) (hn : p.length ≤ 9223372036854775807) (w : World) (hr : Rd w A (ints p)) :
    Calls Tryz.prog 121 #[.slice A p.length c, .func (.func 122) #[] #[]] w fun e w' => e = .returned (.bool (anyB p)) ∧ Below w.heap.size w w' := by
  have HC := Lib.hid (ixfunc_any A c p hn w hr)
  obtain ⟨b, hb⟩ : ∃ b, anyB p = b := ⟨_, rfl⟩
  have HB := Lib.hid hb
  rw [hb]
  clear hr hb
  go_enter Tryz.func121, Tryz.ntmps121
  go_wp2_with fail
  refine HC.out.mono ?_
  rintro e w' ⟨r, rfl, hr, hB⟩
  rw [HB.out] at hr
  have HB1 := Lib.hid hB
  clear hB
  cases b
  all_goals
    go_wp2_with fail
    go_ret
    exact ⟨rfl, HB1.out⟩
theorem scale_cases (v n d : Int) : Xa.scale v n d = (0, 0, false) ∨ ∃ q r, Xa.scale v n d = (q, r, true) ∧ 0 ≤ v ∧ 0 ≤ n ∧ v * n = q * d + r ∧ 0 ≤ q ∧ q ≤ 1125899906842624 ∧ 0 ≤ r ∧ r < d ∧ 1 ≤ d ∧ d ≤ 1125899906842624 := by
  by_cases h : 0 ≤ v ∧ v ≤ 1125899906842624 ∧ 0 ≤ n ∧ n ≤ 1125899906842624 ∧ 1 ≤ d ∧ d ≤ 1125899906842624 ∧ v * n / d ≤ 1125899906842624
  · right
    obtain ⟨h1, h2, h3, h4, h5, h6, h7⟩ := h
    refine ⟨_, _, Xa.scale_yes ⟨h1, h2, h3, h4, h5, h6, h7⟩, h1, h3, ?_, Int.ediv_nonneg (Int.mul_nonneg h1 h3) (by omega), h7, Int.emod_nonneg _ (by omega), Int.emod_lt_of_pos _ (by omega), h5, h6⟩
    rw [Int.mul_comm (v * n / d) d]
    exact (Int.mul_ediv_add_emod _ _).symm
  · exact .inl (Xa.scale_no h)
/-- what is carried over from the hour before -/
def carry (rem d : Int) : Int := if 0 ≤ rem ∧ rem < d then rem else 0
def routeF (n d v rem : Int) : Int × Int :=
  if (Xa.scale v n d).2.2 = true then
    if (Xa.scale v n d).2.1 + carry rem d < d then ((Xa.scale v n d).1, (Xa.scale v n d).2.1 + carry rem d) else ((Xa.scale v n d).1 + 1, (Xa.scale v n d).2.1 + carry rem d - d)
  else (0, 0)
theorem routeF_no {n d v rem : Int} (h : Xa.scale v n d = (0, 0, false)) : routeF n d v rem = (0, 0) := by unfold routeF; rw [h]; rfl
theorem routeF_yes {n d v rem q r : Int} (h : Xa.scale v n d = (q, r, true)) : routeF n d v rem = if r + carry rem d < d then (q, r + carry rem d) else (q + 1, r + carry rem d - d) := by unfold routeF; rw [h]; rfl
theorem ret_i2 {a b c d : Int} (h1 : a = c) (h2 : b = d) : Ending.returned (.tuple #[.int .i64 a, .int .i64 b]) = .returned (.tuple #[.int .i64 c, .int .i64 d]) := by rw [h1, h2]
def R2Post (x : Int × Int) (w : World) (e : Ending) (w' : World) : Prop := e = .returned (.tuple #[.int .i64 x.1, .int .i64 x.2]) ∧ Below w.heap.size w w'
set_option maxHeartbeats 4000000 in
theorem route_any (a0 a1 a2 a3 a4 a5 a8 a9 a10 a11 : Value) (n d v rem : Int) (w : World) :
    Calls Tryz.prog 72 #[.agg #[a0, a1, a2, a3, a4, a5, .int .i64 n, .int .i64 d, a8, a9, a10, a11], .int .i64 v, .int .i64 rem] w (R2Post (routeF n d v rem) w) := by
  have CS := Lib.hid (fun W => scale_any v n d W)
  have B0 := Lib.hid (show ∀ (o : Obj) k, Below w.heap.size w ((w.alloc o).drewN k) from fun o k => below_drewN ((Below.refl _ _).alloc (Nat.le_refl _) _) k)
  have B1 := Lib.hid (show ∀ (o : Obj) k j, Below w.heap.size w (((w.alloc o).drewN k).drewN j) from fun o k j => below_drewN (below_drewN ((Below.refl _ _).alloc (Nat.le_refl _) _) k) j)
  rcases scale_cases v n d with hs | ⟨q, r, hs, _, _, _, q1, q2, r1, r2, d1, d2⟩
  · rw [routeF_no hs]
    rw [hs] at CS
    clear hs
    go_enter Tryz.func72, Tryz.ntmps72
    go_wp2_with (first | (go_at_call 106; with_reducible refine (CS.out _).mono ?_; rintro e w' ⟨rfl, k, rfl⟩))
    go_ret2
    exact ⟨rfl, B0.out _ _⟩
  · rw [routeF_yes hs]
    rw [hs] at CS
    clear hs
    obtain ⟨m, hm⟩ : ∃ m, carry rem d = m := ⟨_, rfl⟩
    have hm0 : 0 ≤ m ∧ m < d := by unfold carry at hm; split at hm <;> omega
    by_cases c0 : 0 ≤ rem
    case neg =>
      have t0 : decide (0 ≤ rem) = false := decide_eq_false c0
      obtain rfl : (0 : Int) = m := by unfold carry at hm; rw [if_neg (fun h => c0 h.1)] at hm; exact hm
      have t2 : decide (r + 0 < d) = true := decide_eq_true (by omega)
      have t2' : decide (r < d) = true := decide_eq_true (by omega)
      rw [hm, if_pos (by omega)]
      clear hm
      go_enter Tryz.func72, Tryz.ntmps72
      go_wp2_with (first | (go_at_call 106; with_reducible refine (CS.out _).mono ?_; rintro e w' ⟨rfl, k, rfl⟩))
      go_ret2
      exact ⟨ret_i2 rfl (by omega), B0.out _ _⟩
    have t0 : decide (0 ≤ rem) = true := decide_eq_true c0
    by_cases c1 : rem < d
    case neg =>
      have t1 : decide (rem < d) = false := decide_eq_false c1
      obtain rfl : (0 : Int) = m := by unfold carry at hm; rw [if_neg (fun h => c1 h.2)] at hm; exact hm
      have t2' : decide (r < d) = true := decide_eq_true (by omega)
      rw [hm, if_pos (by omega)]
      clear hm
      go_enter Tryz.func72, Tryz.ntmps72
      go_wp2_with (first | (go_at_call 106; with_reducible refine (CS.out _).mono ?_; rintro e w' ⟨rfl, k, rfl⟩))
      go_ret2
      exact ⟨ret_i2 rfl (by omega), B0.out _ _⟩
    have t1 : decide (rem < d) = true := decide_eq_true c1
    obtain rfl : rem = m := by unfold carry at hm; rw [if_pos ⟨c0, c1⟩] at hm; exact hm
    rw [hm]
    clear hm
    have w0 : IntKind.i64.wrap (r + rem) = r + rem := IntWalk.i64_in _ (by omega)
    by_cases c2 : r + rem < d
    · have t2 : decide (r + rem < d) = true := decide_eq_true c2
      rw [if_pos c2]
      go_enter Tryz.func72, Tryz.ntmps72
      go_wp2_with (first | (go_at_call 106; with_reducible refine (CS.out _).mono ?_; rintro e w' ⟨rfl, k, rfl⟩))
      go_ret2
      exact ⟨rfl, B0.out _ _⟩
    · have t2 : decide (r + rem < d) = false := decide_eq_false c2
      have w1 : IntKind.i64.wrap (q + 1) = q + 1 := IntWalk.i64_in _ (by omega)
      have w2 : IntKind.i64.wrap (r + rem - d) = r + rem - d := IntWalk.i64_in _ (by omega)
      rw [if_neg c2]
      go_enter Tryz.func72, Tryz.ntmps72
      go_upto_region 9 with (first | (go_at_call 106; with_reducible refine (CS.out _).mono ?_; rintro e w' ⟨rfl, k, rfl⟩))
      go_quiet (fail)
      go_wp2_with fail
      go_ret2
      exact ⟨rfl, B1.out _ _ _⟩
end Go.Proofs.YtngjakahanmepaaGreatDoor
