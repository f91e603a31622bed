/- Part 18 of the proof of TopRights: basin.rightHead. -/
import Derived.Test.YtngjakahanmepaaGreatDoorM17
import Derived.Laws.Strings
namespace Go.Proofs.YtngjakahanmepaaGreatDoor
open Go.RowKit
set_option linter.unusedVariables false
set_option linter.unusedSimpArgs false
/-- the bytes of a string -/
def bl (s : ByteArray) : List Int := (List.range s.size).map fun i => (if h : i < s.size then ((s[i]).toNat : Int) else 0)
theorem bl_length (s : ByteArray) : (bl s).length = s.size := by simp [bl]
theorem bl_at {s : ByteArray} {k : Nat} (h : k < s.size) : (bl s)[k]'(by rw [bl_length]; exact h) = ((s[k]).toNat : Int) := by simp [bl, h]
def chB (c : Int) : Bool := !decide (c < 32) && !decide (126 < c) && !(c == 34) && !(c == 92)
def headB (nm : ByteArray) (on : Nat) (cells : Int) (n rn sn : Nat) (room : List Int) (err : Int) : Bool :=
  decide (nm.size ≤ 500) && inB (on : Int) 1 16 && inB cells 0 64 && inB (n : Int) 1 64 && decide (rn ≤ 128) && decide (sn ≤ 40) && decide (room.length = 3) && inB err 0 1099511627776 && (bl nm).all chB && room.all volB
theorem headB_of {nm : ByteArray} {on : Nat} {cells : Int} {n rn sn : Nat} {room : List Int} {err : Int} (h : headB nm on cells n rn sn room err = true) : 0 ≤ cells ∧ cells ≤ 64 := by
  unfold headB at h
  simp only [Bool.and_eq_true, inB, decide_eq_true_eq] at h
  omega
set_option maxHeartbeats 32000000 in
set_option maxRecDepth 100000 in
theorem head_is (nm : ByteArray) (OA B LA TA GA RA SA MA : Option Addr) (on oc n cb ln lc tn tc gn gc rn rc sn sc mc : Nat) (cells err : Int) (room : List Int) (hln : ln ≤ 96) (htn : tn ≤ 40) (hgn : gn ≤ 128) (hmn : room.length ≤ 9223372036854775807) (w : World) (hm : Rd w MA (ints room)) :
    Calls Tryz.prog 35 #[.agg #[.string nm, .slice OA on oc, .int .i64 cells, .slice B n cb, .slice LA ln lc, .slice TA tn tc, .slice GA gn gc, .slice RA rn rc, .slice SA sn sc, .slice MA room.length mc, .int .i64 err]] w fun e w' => e = .returned (.bool (headB nm on cells n rn sn room err)) ∧ Below w.heap.size w w' := by
  obtain ⟨R, hR⟩ : ∃ b, headB nm on cells n rn sn room err = b := ⟨_, rfl⟩
  rw [hR]
  have HF := Lib.hid hR.symm
  clear hR
  have t_l : decide ((96 : Int) < (ln : Int)) = false := decide_eq_false (by omega)
  have t_t : decide ((40 : Int) < (tn : Int)) = false := decide_eq_false (by omega)
  have t_g : decide ((128 : Int) < (gn : Int)) = false := decide_eq_false (by omega)
  go_enter Tryz.func35, Tryz.ntmps35
  go_upto_region 1 with fail
  refine wp_rebase _ (fun V hV x0 => ?_)
  have HB0 := Lib.hid (show Below w.heap.size w V by rw [hV]; exact bel_alloc (Below.refl _ _) _)
  have HBB := Lib.hid (show V.rangeAt w.heap.size 0 [.string nm, .slice OA on oc, .int .i64 cells, .slice B n cb, .slice LA ln lc, .slice TA tn tc, .slice GA gn gc, .slice RA rn rc, .slice SA sn sc, .slice MA room.length mc, .int .i64 err] by rw [hV]; exact range_new _ _ [.string nm, .slice OA on oc, .int .i64 cells, .slice B n cb, .slice LA ln lc, .slice TA tn tc, .slice GA gn gc, .slice RA rn rc, .slice SA sn sc, .slice MA room.length mc, .int .i64 err])
  have HM := Lib.hid (hm.below (Nat.le_refl _) HB0.out)
  clear hV hm hln htn hgn
  have HG := Lib.hid (fun z : BelW V => (show Below w.heap.size w z.w from below_next HB0.out z.2))
  have b0 := fun z : BelW V => (show z.w.cell? ⟨w.heap.size, 0, none⟩ = some (.string nm) from BelW.range HBB.out z 0 _ rfl)
  have b1 := fun z : BelW V => (show z.w.cell? ⟨w.heap.size, 1, none⟩ = some (.slice OA on oc) from BelW.range HBB.out z 1 _ rfl)
  have b2 := fun z : BelW V => (show z.w.cell? ⟨w.heap.size, 2, none⟩ = some (.int .i64 cells) from BelW.range HBB.out z 2 _ rfl)
  have b3 := fun z : BelW V => (show z.w.cell? ⟨w.heap.size, 3, none⟩ = some (.slice B n cb) from BelW.range HBB.out z 3 _ rfl)
  have b4 := fun z : BelW V => (show z.w.cell? ⟨w.heap.size, 4, none⟩ = some (.slice LA ln lc) from BelW.range HBB.out z 4 _ rfl)
  have b5 := fun z : BelW V => (show z.w.cell? ⟨w.heap.size, 5, none⟩ = some (.slice TA tn tc) from BelW.range HBB.out z 5 _ rfl)
  have b6 := fun z : BelW V => (show z.w.cell? ⟨w.heap.size, 6, none⟩ = some (.slice GA gn gc) from BelW.range HBB.out z 6 _ rfl)
  have b7 := fun z : BelW V => (show z.w.cell? ⟨w.heap.size, 7, none⟩ = some (.slice RA rn rc) from BelW.range HBB.out z 7 _ rfl)
  have b8 := fun z : BelW V => (show z.w.cell? ⟨w.heap.size, 8, none⟩ = some (.slice SA sn sc) from BelW.range HBB.out z 8 _ rfl)
  have b9 := fun z : BelW V => (show z.w.cell? ⟨w.heap.size, 9, none⟩ = some (.slice MA room.length mc) from BelW.range HBB.out z 9 _ rfl)
  have b10 := fun z : BelW V => (show z.w.cell? ⟨w.heap.size, 10, none⟩ = some (.int .i64 err) from BelW.range HBB.out z 10 _ rfl)
  clear HBB
  have CI := Lib.hid (fun (z : BelW V) (n lo hi : Int) (b : Bool) (h : inB n lo hi = b) => bel_of (x := z) (in_cal h z.w))
  by_cases p1 : nm.size ≤ 500
  case neg =>
    have t1 : decide ((500 : Int) < (nm.size : Int)) = true := decide_eq_true (by omega)
    (have hr : R = false := (by rw [HF.out]; simp [headB, *]); subst hr; clear HF; go_wp2_with (first | (go_at_call 74; (with_reducible refine (CI.out _ _ _ _ _ (by assumption)).mono ?_); rintro e w1 ⟨rfl, z, rfl⟩)); go_ret; exact ⟨rfl, HG.out _⟩)
  have t1 : decide ((500 : Int) < (nm.size : Int)) = false := decide_eq_false (by omega)
  cases q1 : inB (on : Int) 1 16
  case false => (have hr : R = false := (by rw [HF.out]; simp [headB, *]); subst hr; clear HF; go_wp2_with (first | (go_at_call 74; (with_reducible refine (CI.out _ _ _ _ _ (by assumption)).mono ?_); rintro e w1 ⟨rfl, z, rfl⟩)); go_ret; exact ⟨rfl, HG.out _⟩)
  cases q2 : inB cells 0 64
  case false => (have hr : R = false := (by rw [HF.out]; simp [headB, *]); subst hr; clear HF; go_wp2_with (first | (go_at_call 74; (with_reducible refine (CI.out _ _ _ _ _ (by assumption)).mono ?_); rintro e w1 ⟨rfl, z, rfl⟩)); go_ret; exact ⟨rfl, HG.out _⟩)
  cases q3 : inB (n : Int) 1 64
  case false => (have hr : R = false := (by rw [HF.out]; simp [headB, *]); subst hr; clear HF; go_wp2_with (first | (go_at_call 74; (with_reducible refine (CI.out _ _ _ _ _ (by assumption)).mono ?_); rintro e w1 ⟨rfl, z, rfl⟩)); go_ret; exact ⟨rfl, HG.out _⟩)
  by_cases p2 : rn ≤ 128
  case neg =>
    have t2 : decide ((128 : Int) < (rn : Int)) = true := decide_eq_true (by omega)
    (have hr : R = false := (by rw [HF.out]; simp [headB, *]); subst hr; clear HF; go_wp2_with (first | (go_at_call 74; (with_reducible refine (CI.out _ _ _ _ _ (by assumption)).mono ?_); rintro e w1 ⟨rfl, z, rfl⟩)); go_ret; exact ⟨rfl, HG.out _⟩)
  have t2 : decide ((128 : Int) < (rn : Int)) = false := decide_eq_false (by omega)
  by_cases p3 : sn ≤ 40
  case neg =>
    have t3 : decide ((40 : Int) < (sn : Int)) = true := decide_eq_true (by omega)
    (have hr : R = false := (by rw [HF.out]; simp [headB, *]); subst hr; clear HF; go_wp2_with (first | (go_at_call 74; (with_reducible refine (CI.out _ _ _ _ _ (by assumption)).mono ?_); rintro e w1 ⟨rfl, z, rfl⟩)); go_ret; exact ⟨rfl, HG.out _⟩)
  have t3 : decide ((40 : Int) < (sn : Int)) = false := decide_eq_false (by omega)
  by_cases p4 : room.length = 3
  case neg =>
    have t4 : ((room.length : Int) != 3) = true := bne_iff_ne.2 (by omega)
    (have hr : R = false := (by rw [HF.out]; simp [headB, *]); subst hr; clear HF; go_wp2_with (first | (go_at_call 74; (with_reducible refine (CI.out _ _ _ _ _ (by assumption)).mono ?_); rintro e w1 ⟨rfl, z, rfl⟩)); go_ret; exact ⟨rfl, HG.out _⟩)
  have t4 : ((room.length : Int) != 3) = false := bne_eq_false_iff_eq.2 (by omega)
  cases q4 : inB err 0 1099511627776
  case false => (have hr : R = false := (by rw [HF.out]; simp [headB, *]); subst hr; clear HF; go_wp2_with (first | (go_at_call 74; (with_reducible refine (CI.out _ _ _ _ _ (by assumption)).mono ?_); rintro e w1 ⟨rfl, z, rfl⟩)); go_ret; exact ⟨rfl, HG.out _⟩)
  have HF := Lib.hid (show R = ((bl nm).all chB && room.all volB) by rw [HF.out]; simp [headB, *])
  have HBP := Lib.hid (fun (k : Nat) (hk : k < (bl nm).length) (h : chB (bl nm)[k] = false) => (show R = false by rw [HF.out, all_bad hk h]; rfl))
  have HBL := Lib.hid (fun (k : Nat) (hk : k < room.length) (h : volB room[k] = false) => (show R = false by rw [HF.out, all_bad hk h, Bool.and_false]))
  have HGO := Lib.hid (fun (h1 : (bl nm).all chB = true) (h2 : room.all volB = true) => (show R = true by rw [HF.out, h1, h2]; rfl))
  clear HF p4
  go_upto_region 3 with (first | (go_at_call 74; (with_reducible refine (CI.out _ _ _ _ _ (by assumption)).mono ?_); rintro e w1 ⟨rfl, z, rfl⟩))
  clear b1 b2 b3 b4 b5 b6 b7 b8 b10 q1 q2 q3 q4 t_l t_t t_g t1 t2 t3 t4 p2 p3
  go_wp2_with fail
  go_loopw [76] (fun s76 wr => AllR V chB (bl nm) s76 wr) (fun i _ => nm.size - (intOf i).toNat)
  case atStart => exact ⟨0, by omega, rfl, Lib.hid (all_none _ _), z, rfl⟩
  case round =>
    obtain ⟨k, hk, rfl, hal, y, rfl⟩ := hrel
    have HAL := Lib.hid hal.out
    clear hal
    rw [bl_length] at hk
    by_cases hlt : k < nm.size
    case neg =>
      have i4 : decide ((k : Int) < (nm.size : Int)) = false := decide_eq_false (by omega)
      obtain rfl : k = nm.size := by omega
      have HT1 := Lib.hid (all_end (by rw [bl_length]; exact HAL.out))
      clear HAL
      go_wp2_with fail
      go_loopw [101] (fun s101 wr => AllR V volB room s101 wr) (fun i _ => room.length - (intOf i).toNat)
      case atStart => exact ⟨0, by omega, rfl, Lib.hid (all_none _ _), y, rfl⟩
      case round =>
        obtain ⟨k, hk, rfl, hal, y, rfl⟩ := hrel
        have HAL := Lib.hid hal.out
        clear hal
        by_cases hlt : k < room.length
        case neg =>
          have i5 : decide ((k : Int) < (room.length : Int)) = false := decide_eq_false (by omega)
          obtain rfl : k = room.length := by omega
          have hr := HGO.out HT1.out (all_end HAL.out)
          subst hr
          clear HAL HGO HBL HBP
          go_wp2_with fail
          go_ret
          exact ⟨rfl, HG.out y⟩
        have i5 : decide ((k : Int) < (room.length : Int)) = true := decide_eq_true (by omega)
        have j1 : (0 : Int) ≤ (k : Int) := by omega
        have j2 : (k : Int) < (room.length : Int) := by omega
        obtain ⟨ad, rfl, hcell⟩ := rd_row (HM.out.bel y) hlt
        have HNX := Lib.hid (fun h => all_next hlt HAL.out h)
        have HBD := Lib.hid (HBL.out k hlt)
        have hgi : gi room k = room[k] := by simp [gi, List.getD, hlt]
        rw [← hgi] at HNX HBD
        obtain ⟨X, hX⟩ : ∃ X, gi room k = X := ⟨_, rfl⟩
        rw [hX] at HNX HBD hcell
        clear hX hgi
        have CV := Lib.hid (fun (z : BelW V) (n : Int) => bel_of (x := z) (volume_is n z.w))
        go_wp2_with (first | (go_at_call 75; (with_reducible refine (CV.out _ _).mono ?_); rintro e w1 ⟨rfl, z, rfl⟩; generalize hq : volB _ = b; cases b))
        · have hr := HBD.out hq
          subst hr
          go_ret
          exact ⟨rfl, HG.out z⟩
        · have HN2 := Lib.hid (HNX.out hq)
          go_roundw
          case rel => exact ⟨k + 1, by omega, by go_num, Lib.hid HN2.out, z, rfl⟩
          case measure => simp [intOf]; omega
    have i4 : decide ((k : Int) < (nm.size : Int)) = true := decide_eq_true (by omega)
    have j1 : (0 : Int) ≤ (k : Int) := by omega
    have j2 : (k : Int) < (nm.size : Int) := by omega
    have hlt2 : k < (bl nm).length := by rw [bl_length]; exact hlt
    have HNX := Lib.hid (fun h => all_next hlt2 HAL.out h)
    have HBD := Lib.hid (HBP.out k hlt2)
    rw [bl_at hlt] at HNX HBD
    obtain ⟨c, hc⟩ : ∃ c : Int, ((nm[k]).toNat : Int) = c := ⟨_, rfl⟩
    rw [hc] at HNX HBD
    have ix := fun w : World => (show (Instr.index 9 (.string nm) (.int .i64 (k : Int))).run Tryz.prog w = .ok (.int .u8 c) w by
      rw [run_index_string w 9 nm .i64 _ Tryz.underlying9, dif_pos ⟨by omega, by omega⟩]
      simp only [Int.toNat_natCast]
      rw [hc])
    clear hlt2
    by_cases u1 : c < 32
    · have t1 : decide (c < 32) = true := decide_eq_true u1
      (have hr := HBD.out (by unfold chB; simp [*]); subst hr; go_wp2_with fail; go_ret; exact ⟨rfl, HG.out _⟩)
    have t1 : decide (c < 32) = false := decide_eq_false u1
    by_cases u2 : 126 < c
    · have t2 : decide (126 < c) = true := decide_eq_true u2
      (have hr := HBD.out (by unfold chB; simp [*]); subst hr; go_wp2_with fail; go_ret; exact ⟨rfl, HG.out _⟩)
    have t2 : decide (126 < c) = false := decide_eq_false u2
    by_cases u3 : c = 34
    · have t3 : (c == 34) = true := beq_iff_eq.2 u3
      clear u3
      (have hr := HBD.out (by unfold chB; simp [*]); subst hr; go_wp2_with fail; go_ret; exact ⟨rfl, HG.out _⟩)
    have t3 : (c == 34) = false := beq_eq_false_iff_ne.2 u3
    by_cases u4 : c = 92
    · have t4 : (c == 92) = true := beq_iff_eq.2 u4
      clear u4
      (have hr := HBD.out (by unfold chB; simp [*]); subst hr; go_wp2_with fail; go_ret; exact ⟨rfl, HG.out _⟩)
    have t4 : (c == 92) = false := beq_eq_false_iff_ne.2 u4
    have HN2 := Lib.hid (HNX.out (by unfold chB; rw [t1, t2, t3, t4]; rfl))
    go_wp2_with fail
    go_roundw
    case rel => exact ⟨k + 1, by rw [bl_length]; omega, by go_num, Lib.hid HN2.out, y, rfl⟩
    case measure => simp [intOf]; omega
end Go.Proofs.YtngjakahanmepaaGreatDoor
