/- Part 25 of the proof of TopRights: basin.rightUnused. Printed by wip/tools/mkbuns.py. -/
import Derived.Test.YtngjakahanmepaaGreatDoorM17
namespace Go.Proofs.YtngjakahanmepaaGreatDoor
open Go.RowKit
set_option linter.unusedVariables false
set_option linter.unusedSimpArgs false
def unusedB (x : Lk) : Bool :=
  !(!(x.kind == 0) && (decide ((0 : Int) < (x.rate.length : Int)) || decide ((0 : Int) < (x.lo.length : Int)) || decide ((0 : Int) < (x.hi.length : Int)) || x.leak != 0)) &&
  !(!(x.kind == 0) && x.kind != 2 && (x.pos != 0 || x.spd != 0)) && !(x.kind != 1 && x.kind != 5 && x.crest != 0) &&
  !(x.kind == 0 && x.num != 0 || (x.kind == 0 || x.kind == 2) && x.den != 0) && !(x.kind != 3 && (x.prime != 0 || x.brk != 0)) &&
  (x.kind == 0 || x.kind == 4 || (x.bnum == 0 && x.bden == 0))
set_option maxHeartbeats 32000000 in
set_option maxRecDepth 100000 in
theorem unused0 (nm : ByteArray) (fr to' : Int) (RA : Option Addr) (rc : Nat) (rate : List Sp) (LA : Option Addr) (lc : Nat) (lo : List Sp) (HA : Option Addr) (hc : Nat) (hi : List Sp) (pos spd leak crest num den prime brk bnum bden delay : Int) (w : World) :
    Calls Tryz.prog 83 #[.agg #[.string nm, .int .i64 0, .int .i64 fr, .int .i64 to', .slice RA rate.length rc, .slice LA lo.length lc, .slice HA hi.length hc, .int .i64 pos, .int .i64 spd, .int .i64 leak, .int .i64 crest, .int .i64 num, .int .i64 den, .int .i64 prime, .int .i64 brk, .int .i64 bnum, .int .i64 bden, .int .i64 delay]] w fun e w' => e = .returned (.bool (unusedB ⟨nm, 0, fr, to', RA, rc, rate, LA, lc, lo, HA, hc, hi, pos, spd, leak, crest, num, den, prime, brk, bnum, bden, delay⟩)) ∧ Below w.heap.size w w' := by
  obtain ⟨R, hR⟩ : ∃ b, unusedB ⟨nm, 0, fr, to', RA, rc, rate, LA, lc, lo, HA, hc, hi, pos, spd, leak, crest, num, den, prime, brk, bnum, bden, delay⟩ = b := ⟨_, rfl⟩
  rw [hR]
  have HF := Lib.hid hR.symm
  clear hR
  go_enter Tryz.func83, Tryz.ntmps83
  go_upto_region 1 with fail
  refine wp_rebase _ (fun V hV x0 => ?_)
  have HB0 := Lib.hid (show Below w.heap.size w V by rw [hV]; exact bel_alloc (Below.refl _ _) _)
  have HBB := Lib.hid (show V.rangeAt w.heap.size 0 [.string nm, .int .i64 0, .int .i64 fr, .int .i64 to', .slice RA rate.length rc, .slice LA lo.length lc, .slice HA hi.length hc, .int .i64 pos, .int .i64 spd, .int .i64 leak, .int .i64 crest, .int .i64 num, .int .i64 den, .int .i64 prime, .int .i64 brk, .int .i64 bnum, .int .i64 bden, .int .i64 delay] by rw [hV]; exact range_new _ _ [.string nm, .int .i64 0, .int .i64 fr, .int .i64 to', .slice RA rate.length rc, .slice LA lo.length lc, .slice HA hi.length hc, .int .i64 pos, .int .i64 spd, .int .i64 leak, .int .i64 crest, .int .i64 num, .int .i64 den, .int .i64 prime, .int .i64 brk, .int .i64 bnum, .int .i64 bden, .int .i64 delay])
  have HG := Lib.hid (fun z : BelW V => (show Below w.heap.size w z.w from below_next HB0.out z.2))
  clear hV
  have c1 := fun z : BelW V => (show z.w.cell? ⟨w.heap.size, 1, none⟩ = some (.int .i64 0) from BelW.range HBB.out z 1 _ rfl)
  have c4 := fun z : BelW V => (show z.w.cell? ⟨w.heap.size, 4, none⟩ = some (.slice RA rate.length rc) from BelW.range HBB.out z 4 _ rfl)
  have c5 := fun z : BelW V => (show z.w.cell? ⟨w.heap.size, 5, none⟩ = some (.slice LA lo.length lc) from BelW.range HBB.out z 5 _ rfl)
  have c6 := fun z : BelW V => (show z.w.cell? ⟨w.heap.size, 6, none⟩ = some (.slice HA hi.length hc) from BelW.range HBB.out z 6 _ rfl)
  have c7 := fun z : BelW V => (show z.w.cell? ⟨w.heap.size, 7, none⟩ = some (.int .i64 pos) from BelW.range HBB.out z 7 _ rfl)
  have c8 := fun z : BelW V => (show z.w.cell? ⟨w.heap.size, 8, none⟩ = some (.int .i64 spd) from BelW.range HBB.out z 8 _ rfl)
  have c9 := fun z : BelW V => (show z.w.cell? ⟨w.heap.size, 9, none⟩ = some (.int .i64 leak) from BelW.range HBB.out z 9 _ rfl)
  have c10 := fun z : BelW V => (show z.w.cell? ⟨w.heap.size, 10, none⟩ = some (.int .i64 crest) from BelW.range HBB.out z 10 _ rfl)
  have c11 := fun z : BelW V => (show z.w.cell? ⟨w.heap.size, 11, none⟩ = some (.int .i64 num) from BelW.range HBB.out z 11 _ rfl)
  have c12 := fun z : BelW V => (show z.w.cell? ⟨w.heap.size, 12, none⟩ = some (.int .i64 den) from BelW.range HBB.out z 12 _ rfl)
  have c13 := fun z : BelW V => (show z.w.cell? ⟨w.heap.size, 13, none⟩ = some (.int .i64 prime) from BelW.range HBB.out z 13 _ rfl)
  have c14 := fun z : BelW V => (show z.w.cell? ⟨w.heap.size, 14, none⟩ = some (.int .i64 brk) from BelW.range HBB.out z 14 _ rfl)
  have c15 := fun z : BelW V => (show z.w.cell? ⟨w.heap.size, 15, none⟩ = some (.int .i64 bnum) from BelW.range HBB.out z 15 _ rfl)
  have c16 := fun z : BelW V => (show z.w.cell? ⟨w.heap.size, 16, none⟩ = some (.int .i64 bden) from BelW.range HBB.out z 16 _ rfl)
  clear HBB
  by_cases p_crest : crest = 0
  case neg =>
    have t_crest : (crest != 0) = true := bne_iff_ne.2 p_crest
    (go_wp2_with fail; all_goals (go_ret; exact ⟨by rw [HF.out]; simp [unusedB, *], HG.out _⟩))
  have t_crest : (crest != 0) = false := bne_eq_false_iff_eq.2 p_crest
  go_upto_region 8 with fail
  by_cases p_num : num = 0
  case neg =>
    have t_num : (num != 0) = true := bne_iff_ne.2 p_num
    (go_wp2_with fail; all_goals (go_ret; exact ⟨by rw [HF.out]; simp [unusedB, *], HG.out _⟩))
  have t_num : (num != 0) = false := bne_eq_false_iff_eq.2 p_num
  by_cases p_den : den = 0
  case neg =>
    have t_den : (den != 0) = true := bne_iff_ne.2 p_den
    (go_wp2_with fail; all_goals (go_ret; exact ⟨by rw [HF.out]; simp [unusedB, *], HG.out _⟩))
  have t_den : (den != 0) = false := bne_eq_false_iff_eq.2 p_den
  go_upto_region 10 with fail
  by_cases p_prime : prime = 0
  case neg =>
    have t_prime : (prime != 0) = true := bne_iff_ne.2 p_prime
    (go_wp2_with fail; all_goals (go_ret; exact ⟨by rw [HF.out]; simp [unusedB, *], HG.out _⟩))
  have t_prime : (prime != 0) = false := bne_eq_false_iff_eq.2 p_prime
  by_cases p_brk : brk = 0
  case neg =>
    have t_brk : (brk != 0) = true := bne_iff_ne.2 p_brk
    (go_wp2_with fail; all_goals (go_ret; exact ⟨by rw [HF.out]; simp [unusedB, *], HG.out _⟩))
  have t_brk : (brk != 0) = false := bne_eq_false_iff_eq.2 p_brk
  go_upto_region 12 with fail
  (go_wp2_with fail; all_goals (go_ret; exact ⟨by rw [HF.out]; simp [unusedB, *], HG.out _⟩))
set_option maxHeartbeats 32000000 in
set_option maxRecDepth 100000 in
theorem unused1 (nm : ByteArray) (fr to' : Int) (RA : Option Addr) (rc : Nat) (rate : List Sp) (LA : Option Addr) (lc : Nat) (lo : List Sp) (HA : Option Addr) (hc : Nat) (hi : List Sp) (pos spd leak crest num den prime brk bnum bden delay : Int) (w : World) :
    Calls Tryz.prog 83 #[.agg #[.string nm, .int .i64 1, .int .i64 fr, .int .i64 to', .slice RA rate.length rc, .slice LA lo.length lc, .slice HA hi.length hc, .int .i64 pos, .int .i64 spd, .int .i64 leak, .int .i64 crest, .int .i64 num, .int .i64 den, .int .i64 prime, .int .i64 brk, .int .i64 bnum, .int .i64 bden, .int .i64 delay]] w fun e w' => e = .returned (.bool (unusedB ⟨nm, 1, fr, to', RA, rc, rate, LA, lc, lo, HA, hc, hi, pos, spd, leak, crest, num, den, prime, brk, bnum, bden, delay⟩)) ∧ Below w.heap.size w w' := by
  obtain ⟨R, hR⟩ : ∃ b, unusedB ⟨nm, 1, fr, to', RA, rc, rate, LA, lc, lo, HA, hc, hi, pos, spd, leak, crest, num, den, prime, brk, bnum, bden, delay⟩ = b := ⟨_, rfl⟩
  rw [hR]
  have HF := Lib.hid hR.symm
  clear hR
  go_enter Tryz.func83, Tryz.ntmps83
  go_upto_region 1 with fail
  refine wp_rebase _ (fun V hV x0 => ?_)
  have HB0 := Lib.hid (show Below w.heap.size w V by rw [hV]; exact bel_alloc (Below.refl _ _) _)
  have HBB := Lib.hid (show V.rangeAt w.heap.size 0 [.string nm, .int .i64 1, .int .i64 fr, .int .i64 to', .slice RA rate.length rc, .slice LA lo.length lc, .slice HA hi.length hc, .int .i64 pos, .int .i64 spd, .int .i64 leak, .int .i64 crest, .int .i64 num, .int .i64 den, .int .i64 prime, .int .i64 brk, .int .i64 bnum, .int .i64 bden, .int .i64 delay] by rw [hV]; exact range_new _ _ [.string nm, .int .i64 1, .int .i64 fr, .int .i64 to', .slice RA rate.length rc, .slice LA lo.length lc, .slice HA hi.length hc, .int .i64 pos, .int .i64 spd, .int .i64 leak, .int .i64 crest, .int .i64 num, .int .i64 den, .int .i64 prime, .int .i64 brk, .int .i64 bnum, .int .i64 bden, .int .i64 delay])
  have HG := Lib.hid (fun z : BelW V => (show Below w.heap.size w z.w from below_next HB0.out z.2))
  clear hV
  have c1 := fun z : BelW V => (show z.w.cell? ⟨w.heap.size, 1, none⟩ = some (.int .i64 1) from BelW.range HBB.out z 1 _ rfl)
  have c4 := fun z : BelW V => (show z.w.cell? ⟨w.heap.size, 4, none⟩ = some (.slice RA rate.length rc) from BelW.range HBB.out z 4 _ rfl)
  have c5 := fun z : BelW V => (show z.w.cell? ⟨w.heap.size, 5, none⟩ = some (.slice LA lo.length lc) from BelW.range HBB.out z 5 _ rfl)
  have c6 := fun z : BelW V => (show z.w.cell? ⟨w.heap.size, 6, none⟩ = some (.slice HA hi.length hc) from BelW.range HBB.out z 6 _ rfl)
  have c7 := fun z : BelW V => (show z.w.cell? ⟨w.heap.size, 7, none⟩ = some (.int .i64 pos) from BelW.range HBB.out z 7 _ rfl)
  have c8 := fun z : BelW V => (show z.w.cell? ⟨w.heap.size, 8, none⟩ = some (.int .i64 spd) from BelW.range HBB.out z 8 _ rfl)
  have c9 := fun z : BelW V => (show z.w.cell? ⟨w.heap.size, 9, none⟩ = some (.int .i64 leak) from BelW.range HBB.out z 9 _ rfl)
  have c10 := fun z : BelW V => (show z.w.cell? ⟨w.heap.size, 10, none⟩ = some (.int .i64 crest) from BelW.range HBB.out z 10 _ rfl)
  have c11 := fun z : BelW V => (show z.w.cell? ⟨w.heap.size, 11, none⟩ = some (.int .i64 num) from BelW.range HBB.out z 11 _ rfl)
  have c12 := fun z : BelW V => (show z.w.cell? ⟨w.heap.size, 12, none⟩ = some (.int .i64 den) from BelW.range HBB.out z 12 _ rfl)
  have c13 := fun z : BelW V => (show z.w.cell? ⟨w.heap.size, 13, none⟩ = some (.int .i64 prime) from BelW.range HBB.out z 13 _ rfl)
  have c14 := fun z : BelW V => (show z.w.cell? ⟨w.heap.size, 14, none⟩ = some (.int .i64 brk) from BelW.range HBB.out z 14 _ rfl)
  have c15 := fun z : BelW V => (show z.w.cell? ⟨w.heap.size, 15, none⟩ = some (.int .i64 bnum) from BelW.range HBB.out z 15 _ rfl)
  have c16 := fun z : BelW V => (show z.w.cell? ⟨w.heap.size, 16, none⟩ = some (.int .i64 bden) from BelW.range HBB.out z 16 _ rfl)
  clear HBB
  by_cases p_rate : 0 < rate.length
  · have t_rate : decide ((0 : Int) < (rate.length : Int)) = true := decide_eq_true (by omega)
    (go_wp2_with fail; all_goals (go_ret; exact ⟨by rw [HF.out]; simp [unusedB, *], HG.out _⟩))
  have t_rate : decide ((0 : Int) < (rate.length : Int)) = false := decide_eq_false (by omega)
  by_cases p_lo : 0 < lo.length
  · have t_lo : decide ((0 : Int) < (lo.length : Int)) = true := decide_eq_true (by omega)
    (go_wp2_with fail; all_goals (go_ret; exact ⟨by rw [HF.out]; simp [unusedB, *], HG.out _⟩))
  have t_lo : decide ((0 : Int) < (lo.length : Int)) = false := decide_eq_false (by omega)
  by_cases p_hi : 0 < hi.length
  · have t_hi : decide ((0 : Int) < (hi.length : Int)) = true := decide_eq_true (by omega)
    (go_wp2_with fail; all_goals (go_ret; exact ⟨by rw [HF.out]; simp [unusedB, *], HG.out _⟩))
  have t_hi : decide ((0 : Int) < (hi.length : Int)) = false := decide_eq_false (by omega)
  by_cases p_leak : leak = 0
  case neg =>
    have t_leak : (leak != 0) = true := bne_iff_ne.2 p_leak
    (go_wp2_with fail; all_goals (go_ret; exact ⟨by rw [HF.out]; simp [unusedB, *], HG.out _⟩))
  have t_leak : (leak != 0) = false := bne_eq_false_iff_eq.2 p_leak
  go_upto_region 4 with fail
  by_cases p_pos : pos = 0
  case neg =>
    have t_pos : (pos != 0) = true := bne_iff_ne.2 p_pos
    (go_wp2_with fail; all_goals (go_ret; exact ⟨by rw [HF.out]; simp [unusedB, *], HG.out _⟩))
  have t_pos : (pos != 0) = false := bne_eq_false_iff_eq.2 p_pos
  by_cases p_spd : spd = 0
  case neg =>
    have t_spd : (spd != 0) = true := bne_iff_ne.2 p_spd
    (go_wp2_with fail; all_goals (go_ret; exact ⟨by rw [HF.out]; simp [unusedB, *], HG.out _⟩))
  have t_spd : (spd != 0) = false := bne_eq_false_iff_eq.2 p_spd
  go_upto_region 6 with fail
  by_cases p_prime : prime = 0
  case neg =>
    have t_prime : (prime != 0) = true := bne_iff_ne.2 p_prime
    (go_wp2_with fail; all_goals (go_ret; exact ⟨by rw [HF.out]; simp [unusedB, *], HG.out _⟩))
  have t_prime : (prime != 0) = false := bne_eq_false_iff_eq.2 p_prime
  by_cases p_brk : brk = 0
  case neg =>
    have t_brk : (brk != 0) = true := bne_iff_ne.2 p_brk
    (go_wp2_with fail; all_goals (go_ret; exact ⟨by rw [HF.out]; simp [unusedB, *], HG.out _⟩))
  have t_brk : (brk != 0) = false := bne_eq_false_iff_eq.2 p_brk
  go_upto_region 12 with fail
  by_cases p_bnum : bnum = 0
  case neg =>
    have t_bnum : (bnum == 0) = false := beq_eq_false_iff_ne.2 p_bnum
    (go_wp2_with fail; all_goals (go_ret; exact ⟨by rw [HF.out]; simp [unusedB, *], HG.out _⟩))
  have t_bnum : (bnum == 0) = true := beq_iff_eq.2 p_bnum
  by_cases p_bden : bden = 0
  case neg =>
    have t_bden : (bden == 0) = false := beq_eq_false_iff_ne.2 p_bden
    (go_wp2_with fail; all_goals (go_ret; exact ⟨by rw [HF.out]; simp [unusedB, *], HG.out _⟩))
  have t_bden : (bden == 0) = true := beq_iff_eq.2 p_bden
  (go_wp2_with fail; all_goals (go_ret; exact ⟨by rw [HF.out]; simp [unusedB, *], HG.out _⟩))
set_option maxHeartbeats 32000000 in
set_option maxRecDepth 100000 in
theorem unused5 (nm : ByteArray) (fr to' : Int) (RA : Option Addr) (rc : Nat) (rate : List Sp) (LA : Option Addr) (lc : Nat) (lo : List Sp) (HA : Option Addr) (hc : Nat) (hi : List Sp) (pos spd leak crest num den prime brk bnum bden delay : Int) (w : World) :
    Calls Tryz.prog 83 #[.agg #[.string nm, .int .i64 5, .int .i64 fr, .int .i64 to', .slice RA rate.length rc, .slice LA lo.length lc, .slice HA hi.length hc, .int .i64 pos, .int .i64 spd, .int .i64 leak, .int .i64 crest, .int .i64 num, .int .i64 den, .int .i64 prime, .int .i64 brk, .int .i64 bnum, .int .i64 bden, .int .i64 delay]] w fun e w' => e = .returned (.bool (unusedB ⟨nm, 5, fr, to', RA, rc, rate, LA, lc, lo, HA, hc, hi, pos, spd, leak, crest, num, den, prime, brk, bnum, bden, delay⟩)) ∧ Below w.heap.size w w' := by
  obtain ⟨R, hR⟩ : ∃ b, unusedB ⟨nm, 5, fr, to', RA, rc, rate, LA, lc, lo, HA, hc, hi, pos, spd, leak, crest, num, den, prime, brk, bnum, bden, delay⟩ = b := ⟨_, rfl⟩
  rw [hR]
  have HF := Lib.hid hR.symm
  clear hR
  go_enter Tryz.func83, Tryz.ntmps83
  go_upto_region 1 with fail
  refine wp_rebase _ (fun V hV x0 => ?_)
  have HB0 := Lib.hid (show Below w.heap.size w V by rw [hV]; exact bel_alloc (Below.refl _ _) _)
  have HBB := Lib.hid (show V.rangeAt w.heap.size 0 [.string nm, .int .i64 5, .int .i64 fr, .int .i64 to', .slice RA rate.length rc, .slice LA lo.length lc, .slice HA hi.length hc, .int .i64 pos, .int .i64 spd, .int .i64 leak, .int .i64 crest, .int .i64 num, .int .i64 den, .int .i64 prime, .int .i64 brk, .int .i64 bnum, .int .i64 bden, .int .i64 delay] by rw [hV]; exact range_new _ _ [.string nm, .int .i64 5, .int .i64 fr, .int .i64 to', .slice RA rate.length rc, .slice LA lo.length lc, .slice HA hi.length hc, .int .i64 pos, .int .i64 spd, .int .i64 leak, .int .i64 crest, .int .i64 num, .int .i64 den, .int .i64 prime, .int .i64 brk, .int .i64 bnum, .int .i64 bden, .int .i64 delay])
  have HG := Lib.hid (fun z : BelW V => (show Below w.heap.size w z.w from below_next HB0.out z.2))
  clear hV
  have c1 := fun z : BelW V => (show z.w.cell? ⟨w.heap.size, 1, none⟩ = some (.int .i64 5) from BelW.range HBB.out z 1 _ rfl)
  have c4 := fun z : BelW V => (show z.w.cell? ⟨w.heap.size, 4, none⟩ = some (.slice RA rate.length rc) from BelW.range HBB.out z 4 _ rfl)
  have c5 := fun z : BelW V => (show z.w.cell? ⟨w.heap.size, 5, none⟩ = some (.slice LA lo.length lc) from BelW.range HBB.out z 5 _ rfl)
  have c6 := fun z : BelW V => (show z.w.cell? ⟨w.heap.size, 6, none⟩ = some (.slice HA hi.length hc) from BelW.range HBB.out z 6 _ rfl)
  have c7 := fun z : BelW V => (show z.w.cell? ⟨w.heap.size, 7, none⟩ = some (.int .i64 pos) from BelW.range HBB.out z 7 _ rfl)
  have c8 := fun z : BelW V => (show z.w.cell? ⟨w.heap.size, 8, none⟩ = some (.int .i64 spd) from BelW.range HBB.out z 8 _ rfl)
  have c9 := fun z : BelW V => (show z.w.cell? ⟨w.heap.size, 9, none⟩ = some (.int .i64 leak) from BelW.range HBB.out z 9 _ rfl)
  have c10 := fun z : BelW V => (show z.w.cell? ⟨w.heap.size, 10, none⟩ = some (.int .i64 crest) from BelW.range HBB.out z 10 _ rfl)
  have c11 := fun z : BelW V => (show z.w.cell? ⟨w.heap.size, 11, none⟩ = some (.int .i64 num) from BelW.range HBB.out z 11 _ rfl)
  have c12 := fun z : BelW V => (show z.w.cell? ⟨w.heap.size, 12, none⟩ = some (.int .i64 den) from BelW.range HBB.out z 12 _ rfl)
  have c13 := fun z : BelW V => (show z.w.cell? ⟨w.heap.size, 13, none⟩ = some (.int .i64 prime) from BelW.range HBB.out z 13 _ rfl)
  have c14 := fun z : BelW V => (show z.w.cell? ⟨w.heap.size, 14, none⟩ = some (.int .i64 brk) from BelW.range HBB.out z 14 _ rfl)
  have c15 := fun z : BelW V => (show z.w.cell? ⟨w.heap.size, 15, none⟩ = some (.int .i64 bnum) from BelW.range HBB.out z 15 _ rfl)
  have c16 := fun z : BelW V => (show z.w.cell? ⟨w.heap.size, 16, none⟩ = some (.int .i64 bden) from BelW.range HBB.out z 16 _ rfl)
  clear HBB
  by_cases p_rate : 0 < rate.length
  · have t_rate : decide ((0 : Int) < (rate.length : Int)) = true := decide_eq_true (by omega)
    (go_wp2_with fail; all_goals (go_ret; exact ⟨by rw [HF.out]; simp [unusedB, *], HG.out _⟩))
  have t_rate : decide ((0 : Int) < (rate.length : Int)) = false := decide_eq_false (by omega)
  by_cases p_lo : 0 < lo.length
  · have t_lo : decide ((0 : Int) < (lo.length : Int)) = true := decide_eq_true (by omega)
    (go_wp2_with fail; all_goals (go_ret; exact ⟨by rw [HF.out]; simp [unusedB, *], HG.out _⟩))
  have t_lo : decide ((0 : Int) < (lo.length : Int)) = false := decide_eq_false (by omega)
  by_cases p_hi : 0 < hi.length
  · have t_hi : decide ((0 : Int) < (hi.length : Int)) = true := decide_eq_true (by omega)
    (go_wp2_with fail; all_goals (go_ret; exact ⟨by rw [HF.out]; simp [unusedB, *], HG.out _⟩))
  have t_hi : decide ((0 : Int) < (hi.length : Int)) = false := decide_eq_false (by omega)
  by_cases p_leak : leak = 0
  case neg =>
    have t_leak : (leak != 0) = true := bne_iff_ne.2 p_leak
    (go_wp2_with fail; all_goals (go_ret; exact ⟨by rw [HF.out]; simp [unusedB, *], HG.out _⟩))
  have t_leak : (leak != 0) = false := bne_eq_false_iff_eq.2 p_leak
  go_upto_region 4 with fail
  by_cases p_pos : pos = 0
  case neg =>
    have t_pos : (pos != 0) = true := bne_iff_ne.2 p_pos
    (go_wp2_with fail; all_goals (go_ret; exact ⟨by rw [HF.out]; simp [unusedB, *], HG.out _⟩))
  have t_pos : (pos != 0) = false := bne_eq_false_iff_eq.2 p_pos
  by_cases p_spd : spd = 0
  case neg =>
    have t_spd : (spd != 0) = true := bne_iff_ne.2 p_spd
    (go_wp2_with fail; all_goals (go_ret; exact ⟨by rw [HF.out]; simp [unusedB, *], HG.out _⟩))
  have t_spd : (spd != 0) = false := bne_eq_false_iff_eq.2 p_spd
  go_upto_region 6 with fail
  by_cases p_prime : prime = 0
  case neg =>
    have t_prime : (prime != 0) = true := bne_iff_ne.2 p_prime
    (go_wp2_with fail; all_goals (go_ret; exact ⟨by rw [HF.out]; simp [unusedB, *], HG.out _⟩))
  have t_prime : (prime != 0) = false := bne_eq_false_iff_eq.2 p_prime
  by_cases p_brk : brk = 0
  case neg =>
    have t_brk : (brk != 0) = true := bne_iff_ne.2 p_brk
    (go_wp2_with fail; all_goals (go_ret; exact ⟨by rw [HF.out]; simp [unusedB, *], HG.out _⟩))
  have t_brk : (brk != 0) = false := bne_eq_false_iff_eq.2 p_brk
  go_upto_region 12 with fail
  by_cases p_bnum : bnum = 0
  case neg =>
    have t_bnum : (bnum == 0) = false := beq_eq_false_iff_ne.2 p_bnum
    (go_wp2_with fail; all_goals (go_ret; exact ⟨by rw [HF.out]; simp [unusedB, *], HG.out _⟩))
  have t_bnum : (bnum == 0) = true := beq_iff_eq.2 p_bnum
  by_cases p_bden : bden = 0
  case neg =>
    have t_bden : (bden == 0) = false := beq_eq_false_iff_ne.2 p_bden
    (go_wp2_with fail; all_goals (go_ret; exact ⟨by rw [HF.out]; simp [unusedB, *], HG.out _⟩))
  have t_bden : (bden == 0) = true := beq_iff_eq.2 p_bden
  (go_wp2_with fail; all_goals (go_ret; exact ⟨by rw [HF.out]; simp [unusedB, *], HG.out _⟩))
set_option maxHeartbeats 32000000 in
set_option maxRecDepth 100000 in
theorem unused2 (nm : ByteArray) (fr to' : Int) (RA : Option Addr) (rc : Nat) (rate : List Sp) (LA : Option Addr) (lc : Nat) (lo : List Sp) (HA : Option Addr) (hc : Nat) (hi : List Sp) (pos spd leak crest num den prime brk bnum bden delay : Int) (w : World) :
    Calls Tryz.prog 83 #[.agg #[.string nm, .int .i64 2, .int .i64 fr, .int .i64 to', .slice RA rate.length rc, .slice LA lo.length lc, .slice HA hi.length hc, .int .i64 pos, .int .i64 spd, .int .i64 leak, .int .i64 crest, .int .i64 num, .int .i64 den, .int .i64 prime, .int .i64 brk, .int .i64 bnum, .int .i64 bden, .int .i64 delay]] w fun e w' => e = .returned (.bool (unusedB ⟨nm, 2, fr, to', RA, rc, rate, LA, lc, lo, HA, hc, hi, pos, spd, leak, crest, num, den, prime, brk, bnum, bden, delay⟩)) ∧ Below w.heap.size w w' := by
  obtain ⟨R, hR⟩ : ∃ b, unusedB ⟨nm, 2, fr, to', RA, rc, rate, LA, lc, lo, HA, hc, hi, pos, spd, leak, crest, num, den, prime, brk, bnum, bden, delay⟩ = b := ⟨_, rfl⟩
  rw [hR]
  have HF := Lib.hid hR.symm
  clear hR
  go_enter Tryz.func83, Tryz.ntmps83
  go_upto_region 1 with fail
  refine wp_rebase _ (fun V hV x0 => ?_)
  have HB0 := Lib.hid (show Below w.heap.size w V by rw [hV]; exact bel_alloc (Below.refl _ _) _)
  have HBB := Lib.hid (show V.rangeAt w.heap.size 0 [.string nm, .int .i64 2, .int .i64 fr, .int .i64 to', .slice RA rate.length rc, .slice LA lo.length lc, .slice HA hi.length hc, .int .i64 pos, .int .i64 spd, .int .i64 leak, .int .i64 crest, .int .i64 num, .int .i64 den, .int .i64 prime, .int .i64 brk, .int .i64 bnum, .int .i64 bden, .int .i64 delay] by rw [hV]; exact range_new _ _ [.string nm, .int .i64 2, .int .i64 fr, .int .i64 to', .slice RA rate.length rc, .slice LA lo.length lc, .slice HA hi.length hc, .int .i64 pos, .int .i64 spd, .int .i64 leak, .int .i64 crest, .int .i64 num, .int .i64 den, .int .i64 prime, .int .i64 brk, .int .i64 bnum, .int .i64 bden, .int .i64 delay])
  have HG := Lib.hid (fun z : BelW V => (show Below w.heap.size w z.w from below_next HB0.out z.2))
  clear hV
  have c1 := fun z : BelW V => (show z.w.cell? ⟨w.heap.size, 1, none⟩ = some (.int .i64 2) from BelW.range HBB.out z 1 _ rfl)
  have c4 := fun z : BelW V => (show z.w.cell? ⟨w.heap.size, 4, none⟩ = some (.slice RA rate.length rc) from BelW.range HBB.out z 4 _ rfl)
  have c5 := fun z : BelW V => (show z.w.cell? ⟨w.heap.size, 5, none⟩ = some (.slice LA lo.length lc) from BelW.range HBB.out z 5 _ rfl)
  have c6 := fun z : BelW V => (show z.w.cell? ⟨w.heap.size, 6, none⟩ = some (.slice HA hi.length hc) from BelW.range HBB.out z 6 _ rfl)
  have c7 := fun z : BelW V => (show z.w.cell? ⟨w.heap.size, 7, none⟩ = some (.int .i64 pos) from BelW.range HBB.out z 7 _ rfl)
  have c8 := fun z : BelW V => (show z.w.cell? ⟨w.heap.size, 8, none⟩ = some (.int .i64 spd) from BelW.range HBB.out z 8 _ rfl)
  have c9 := fun z : BelW V => (show z.w.cell? ⟨w.heap.size, 9, none⟩ = some (.int .i64 leak) from BelW.range HBB.out z 9 _ rfl)
  have c10 := fun z : BelW V => (show z.w.cell? ⟨w.heap.size, 10, none⟩ = some (.int .i64 crest) from BelW.range HBB.out z 10 _ rfl)
  have c11 := fun z : BelW V => (show z.w.cell? ⟨w.heap.size, 11, none⟩ = some (.int .i64 num) from BelW.range HBB.out z 11 _ rfl)
  have c12 := fun z : BelW V => (show z.w.cell? ⟨w.heap.size, 12, none⟩ = some (.int .i64 den) from BelW.range HBB.out z 12 _ rfl)
  have c13 := fun z : BelW V => (show z.w.cell? ⟨w.heap.size, 13, none⟩ = some (.int .i64 prime) from BelW.range HBB.out z 13 _ rfl)
  have c14 := fun z : BelW V => (show z.w.cell? ⟨w.heap.size, 14, none⟩ = some (.int .i64 brk) from BelW.range HBB.out z 14 _ rfl)
  have c15 := fun z : BelW V => (show z.w.cell? ⟨w.heap.size, 15, none⟩ = some (.int .i64 bnum) from BelW.range HBB.out z 15 _ rfl)
  have c16 := fun z : BelW V => (show z.w.cell? ⟨w.heap.size, 16, none⟩ = some (.int .i64 bden) from BelW.range HBB.out z 16 _ rfl)
  clear HBB
  by_cases p_rate : 0 < rate.length
  · have t_rate : decide ((0 : Int) < (rate.length : Int)) = true := decide_eq_true (by omega)
    (go_wp2_with fail; all_goals (go_ret; exact ⟨by rw [HF.out]; simp [unusedB, *], HG.out _⟩))
  have t_rate : decide ((0 : Int) < (rate.length : Int)) = false := decide_eq_false (by omega)
  by_cases p_lo : 0 < lo.length
  · have t_lo : decide ((0 : Int) < (lo.length : Int)) = true := decide_eq_true (by omega)
    (go_wp2_with fail; all_goals (go_ret; exact ⟨by rw [HF.out]; simp [unusedB, *], HG.out _⟩))
  have t_lo : decide ((0 : Int) < (lo.length : Int)) = false := decide_eq_false (by omega)
  by_cases p_hi : 0 < hi.length
  · have t_hi : decide ((0 : Int) < (hi.length : Int)) = true := decide_eq_true (by omega)
    (go_wp2_with fail; all_goals (go_ret; exact ⟨by rw [HF.out]; simp [unusedB, *], HG.out _⟩))
  have t_hi : decide ((0 : Int) < (hi.length : Int)) = false := decide_eq_false (by omega)
  by_cases p_leak : leak = 0
  case neg =>
    have t_leak : (leak != 0) = true := bne_iff_ne.2 p_leak
    (go_wp2_with fail; all_goals (go_ret; exact ⟨by rw [HF.out]; simp [unusedB, *], HG.out _⟩))
  have t_leak : (leak != 0) = false := bne_eq_false_iff_eq.2 p_leak
  go_upto_region 4 with fail
  by_cases p_crest : crest = 0
  case neg =>
    have t_crest : (crest != 0) = true := bne_iff_ne.2 p_crest
    (go_wp2_with fail; all_goals (go_ret; exact ⟨by rw [HF.out]; simp [unusedB, *], HG.out _⟩))
  have t_crest : (crest != 0) = false := bne_eq_false_iff_eq.2 p_crest
  go_upto_region 8 with fail
  by_cases p_den : den = 0
  case neg =>
    have t_den : (den != 0) = true := bne_iff_ne.2 p_den
    (go_wp2_with fail; all_goals (go_ret; exact ⟨by rw [HF.out]; simp [unusedB, *], HG.out _⟩))
  have t_den : (den != 0) = false := bne_eq_false_iff_eq.2 p_den
  go_upto_region 10 with fail
  by_cases p_prime : prime = 0
  case neg =>
    have t_prime : (prime != 0) = true := bne_iff_ne.2 p_prime
    (go_wp2_with fail; all_goals (go_ret; exact ⟨by rw [HF.out]; simp [unusedB, *], HG.out _⟩))
  have t_prime : (prime != 0) = false := bne_eq_false_iff_eq.2 p_prime
  by_cases p_brk : brk = 0
  case neg =>
    have t_brk : (brk != 0) = true := bne_iff_ne.2 p_brk
    (go_wp2_with fail; all_goals (go_ret; exact ⟨by rw [HF.out]; simp [unusedB, *], HG.out _⟩))
  have t_brk : (brk != 0) = false := bne_eq_false_iff_eq.2 p_brk
  go_upto_region 12 with fail
  by_cases p_bnum : bnum = 0
  case neg =>
    have t_bnum : (bnum == 0) = false := beq_eq_false_iff_ne.2 p_bnum
    (go_wp2_with fail; all_goals (go_ret; exact ⟨by rw [HF.out]; simp [unusedB, *], HG.out _⟩))
  have t_bnum : (bnum == 0) = true := beq_iff_eq.2 p_bnum
  by_cases p_bden : bden = 0
  case neg =>
    have t_bden : (bden == 0) = false := beq_eq_false_iff_ne.2 p_bden
    (go_wp2_with fail; all_goals (go_ret; exact ⟨by rw [HF.out]; simp [unusedB, *], HG.out _⟩))
  have t_bden : (bden == 0) = true := beq_iff_eq.2 p_bden
  (go_wp2_with fail; all_goals (go_ret; exact ⟨by rw [HF.out]; simp [unusedB, *], HG.out _⟩))
set_option maxHeartbeats 32000000 in
set_option maxRecDepth 100000 in
theorem unused3 (nm : ByteArray) (fr to' : Int) (RA : Option Addr) (rc : Nat) (rate : List Sp) (LA : Option Addr) (lc : Nat) (lo : List Sp) (HA : Option Addr) (hc : Nat) (hi : List Sp) (pos spd leak crest num den prime brk bnum bden delay : Int) (w : World) :
    Calls Tryz.prog 83 #[.agg #[.string nm, .int .i64 3, .int .i64 fr, .int .i64 to', .slice RA rate.length rc, .slice LA lo.length lc, .slice HA hi.length hc, .int .i64 pos, .int .i64 spd, .int .i64 leak, .int .i64 crest, .int .i64 num, .int .i64 den, .int .i64 prime, .int .i64 brk, .int .i64 bnum, .int .i64 bden, .int .i64 delay]] w fun e w' => e = .returned (.bool (unusedB ⟨nm, 3, fr, to', RA, rc, rate, LA, lc, lo, HA, hc, hi, pos, spd, leak, crest, num, den, prime, brk, bnum, bden, delay⟩)) ∧ Below w.heap.size w w' := by
  obtain ⟨R, hR⟩ : ∃ b, unusedB ⟨nm, 3, fr, to', RA, rc, rate, LA, lc, lo, HA, hc, hi, pos, spd, leak, crest, num, den, prime, brk, bnum, bden, delay⟩ = b := ⟨_, rfl⟩
  rw [hR]
  have HF := Lib.hid hR.symm
  clear hR
  go_enter Tryz.func83, Tryz.ntmps83
  go_upto_region 1 with fail
  refine wp_rebase _ (fun V hV x0 => ?_)
  have HB0 := Lib.hid (show Below w.heap.size w V by rw [hV]; exact bel_alloc (Below.refl _ _) _)
  have HBB := Lib.hid (show V.rangeAt w.heap.size 0 [.string nm, .int .i64 3, .int .i64 fr, .int .i64 to', .slice RA rate.length rc, .slice LA lo.length lc, .slice HA hi.length hc, .int .i64 pos, .int .i64 spd, .int .i64 leak, .int .i64 crest, .int .i64 num, .int .i64 den, .int .i64 prime, .int .i64 brk, .int .i64 bnum, .int .i64 bden, .int .i64 delay] by rw [hV]; exact range_new _ _ [.string nm, .int .i64 3, .int .i64 fr, .int .i64 to', .slice RA rate.length rc, .slice LA lo.length lc, .slice HA hi.length hc, .int .i64 pos, .int .i64 spd, .int .i64 leak, .int .i64 crest, .int .i64 num, .int .i64 den, .int .i64 prime, .int .i64 brk, .int .i64 bnum, .int .i64 bden, .int .i64 delay])
  have HG := Lib.hid (fun z : BelW V => (show Below w.heap.size w z.w from below_next HB0.out z.2))
  clear hV
  have c1 := fun z : BelW V => (show z.w.cell? ⟨w.heap.size, 1, none⟩ = some (.int .i64 3) from BelW.range HBB.out z 1 _ rfl)
  have c4 := fun z : BelW V => (show z.w.cell? ⟨w.heap.size, 4, none⟩ = some (.slice RA rate.length rc) from BelW.range HBB.out z 4 _ rfl)
  have c5 := fun z : BelW V => (show z.w.cell? ⟨w.heap.size, 5, none⟩ = some (.slice LA lo.length lc) from BelW.range HBB.out z 5 _ rfl)
  have c6 := fun z : BelW V => (show z.w.cell? ⟨w.heap.size, 6, none⟩ = some (.slice HA hi.length hc) from BelW.range HBB.out z 6 _ rfl)
  have c7 := fun z : BelW V => (show z.w.cell? ⟨w.heap.size, 7, none⟩ = some (.int .i64 pos) from BelW.range HBB.out z 7 _ rfl)
  have c8 := fun z : BelW V => (show z.w.cell? ⟨w.heap.size, 8, none⟩ = some (.int .i64 spd) from BelW.range HBB.out z 8 _ rfl)
  have c9 := fun z : BelW V => (show z.w.cell? ⟨w.heap.size, 9, none⟩ = some (.int .i64 leak) from BelW.range HBB.out z 9 _ rfl)
  have c10 := fun z : BelW V => (show z.w.cell? ⟨w.heap.size, 10, none⟩ = some (.int .i64 crest) from BelW.range HBB.out z 10 _ rfl)
  have c11 := fun z : BelW V => (show z.w.cell? ⟨w.heap.size, 11, none⟩ = some (.int .i64 num) from BelW.range HBB.out z 11 _ rfl)
  have c12 := fun z : BelW V => (show z.w.cell? ⟨w.heap.size, 12, none⟩ = some (.int .i64 den) from BelW.range HBB.out z 12 _ rfl)
  have c13 := fun z : BelW V => (show z.w.cell? ⟨w.heap.size, 13, none⟩ = some (.int .i64 prime) from BelW.range HBB.out z 13 _ rfl)
  have c14 := fun z : BelW V => (show z.w.cell? ⟨w.heap.size, 14, none⟩ = some (.int .i64 brk) from BelW.range HBB.out z 14 _ rfl)
  have c15 := fun z : BelW V => (show z.w.cell? ⟨w.heap.size, 15, none⟩ = some (.int .i64 bnum) from BelW.range HBB.out z 15 _ rfl)
  have c16 := fun z : BelW V => (show z.w.cell? ⟨w.heap.size, 16, none⟩ = some (.int .i64 bden) from BelW.range HBB.out z 16 _ rfl)
  clear HBB
  by_cases p_rate : 0 < rate.length
  · have t_rate : decide ((0 : Int) < (rate.length : Int)) = true := decide_eq_true (by omega)
    (go_wp2_with fail; all_goals (go_ret; exact ⟨by rw [HF.out]; simp [unusedB, *], HG.out _⟩))
  have t_rate : decide ((0 : Int) < (rate.length : Int)) = false := decide_eq_false (by omega)
  by_cases p_lo : 0 < lo.length
  · have t_lo : decide ((0 : Int) < (lo.length : Int)) = true := decide_eq_true (by omega)
    (go_wp2_with fail; all_goals (go_ret; exact ⟨by rw [HF.out]; simp [unusedB, *], HG.out _⟩))
  have t_lo : decide ((0 : Int) < (lo.length : Int)) = false := decide_eq_false (by omega)
  by_cases p_hi : 0 < hi.length
  · have t_hi : decide ((0 : Int) < (hi.length : Int)) = true := decide_eq_true (by omega)
    (go_wp2_with fail; all_goals (go_ret; exact ⟨by rw [HF.out]; simp [unusedB, *], HG.out _⟩))
  have t_hi : decide ((0 : Int) < (hi.length : Int)) = false := decide_eq_false (by omega)
  by_cases p_leak : leak = 0
  case neg =>
    have t_leak : (leak != 0) = true := bne_iff_ne.2 p_leak
    (go_wp2_with fail; all_goals (go_ret; exact ⟨by rw [HF.out]; simp [unusedB, *], HG.out _⟩))
  have t_leak : (leak != 0) = false := bne_eq_false_iff_eq.2 p_leak
  go_upto_region 4 with fail
  by_cases p_pos : pos = 0
  case neg =>
    have t_pos : (pos != 0) = true := bne_iff_ne.2 p_pos
    (go_wp2_with fail; all_goals (go_ret; exact ⟨by rw [HF.out]; simp [unusedB, *], HG.out _⟩))
  have t_pos : (pos != 0) = false := bne_eq_false_iff_eq.2 p_pos
  by_cases p_spd : spd = 0
  case neg =>
    have t_spd : (spd != 0) = true := bne_iff_ne.2 p_spd
    (go_wp2_with fail; all_goals (go_ret; exact ⟨by rw [HF.out]; simp [unusedB, *], HG.out _⟩))
  have t_spd : (spd != 0) = false := bne_eq_false_iff_eq.2 p_spd
  go_upto_region 6 with fail
  by_cases p_crest : crest = 0
  case neg =>
    have t_crest : (crest != 0) = true := bne_iff_ne.2 p_crest
    (go_wp2_with fail; all_goals (go_ret; exact ⟨by rw [HF.out]; simp [unusedB, *], HG.out _⟩))
  have t_crest : (crest != 0) = false := bne_eq_false_iff_eq.2 p_crest
  go_upto_region 8 with fail
  by_cases p_bnum : bnum = 0
  case neg =>
    have t_bnum : (bnum == 0) = false := beq_eq_false_iff_ne.2 p_bnum
    (go_wp2_with fail; all_goals (go_ret; exact ⟨by rw [HF.out]; simp [unusedB, *], HG.out _⟩))
  have t_bnum : (bnum == 0) = true := beq_iff_eq.2 p_bnum
  by_cases p_bden : bden = 0
  case neg =>
    have t_bden : (bden == 0) = false := beq_eq_false_iff_ne.2 p_bden
    (go_wp2_with fail; all_goals (go_ret; exact ⟨by rw [HF.out]; simp [unusedB, *], HG.out _⟩))
  have t_bden : (bden == 0) = true := beq_iff_eq.2 p_bden
  (go_wp2_with fail; all_goals (go_ret; exact ⟨by rw [HF.out]; simp [unusedB, *], HG.out _⟩))
set_option maxHeartbeats 32000000 in
set_option maxRecDepth 100000 in
theorem unused4 (nm : ByteArray) (fr to' : Int) (RA : Option Addr) (rc : Nat) (rate : List Sp) (LA : Option Addr) (lc : Nat) (lo : List Sp) (HA : Option Addr) (hc : Nat) (hi : List Sp) (pos spd leak crest num den prime brk bnum bden delay : Int) (w : World) :
    Calls Tryz.prog 83 #[.agg #[.string nm, .int .i64 4, .int .i64 fr, .int .i64 to', .slice RA rate.length rc, .slice LA lo.length lc, .slice HA hi.length hc, .int .i64 pos, .int .i64 spd, .int .i64 leak, .int .i64 crest, .int .i64 num, .int .i64 den, .int .i64 prime, .int .i64 brk, .int .i64 bnum, .int .i64 bden, .int .i64 delay]] w fun e w' => e = .returned (.bool (unusedB ⟨nm, 4, fr, to', RA, rc, rate, LA, lc, lo, HA, hc, hi, pos, spd, leak, crest, num, den, prime, brk, bnum, bden, delay⟩)) ∧ Below w.heap.size w w' := by
  obtain ⟨R, hR⟩ : ∃ b, unusedB ⟨nm, 4, fr, to', RA, rc, rate, LA, lc, lo, HA, hc, hi, pos, spd, leak, crest, num, den, prime, brk, bnum, bden, delay⟩ = b := ⟨_, rfl⟩
  rw [hR]
  have HF := Lib.hid hR.symm
  clear hR
  go_enter Tryz.func83, Tryz.ntmps83
  go_upto_region 1 with fail
  refine wp_rebase _ (fun V hV x0 => ?_)
  have HB0 := Lib.hid (show Below w.heap.size w V by rw [hV]; exact bel_alloc (Below.refl _ _) _)
  have HBB := Lib.hid (show V.rangeAt w.heap.size 0 [.string nm, .int .i64 4, .int .i64 fr, .int .i64 to', .slice RA rate.length rc, .slice LA lo.length lc, .slice HA hi.length hc, .int .i64 pos, .int .i64 spd, .int .i64 leak, .int .i64 crest, .int .i64 num, .int .i64 den, .int .i64 prime, .int .i64 brk, .int .i64 bnum, .int .i64 bden, .int .i64 delay] by rw [hV]; exact range_new _ _ [.string nm, .int .i64 4, .int .i64 fr, .int .i64 to', .slice RA rate.length rc, .slice LA lo.length lc, .slice HA hi.length hc, .int .i64 pos, .int .i64 spd, .int .i64 leak, .int .i64 crest, .int .i64 num, .int .i64 den, .int .i64 prime, .int .i64 brk, .int .i64 bnum, .int .i64 bden, .int .i64 delay])
  have HG := Lib.hid (fun z : BelW V => (show Below w.heap.size w z.w from below_next HB0.out z.2))
  clear hV
  have c1 := fun z : BelW V => (show z.w.cell? ⟨w.heap.size, 1, none⟩ = some (.int .i64 4) from BelW.range HBB.out z 1 _ rfl)
  have c4 := fun z : BelW V => (show z.w.cell? ⟨w.heap.size, 4, none⟩ = some (.slice RA rate.length rc) from BelW.range HBB.out z 4 _ rfl)
  have c5 := fun z : BelW V => (show z.w.cell? ⟨w.heap.size, 5, none⟩ = some (.slice LA lo.length lc) from BelW.range HBB.out z 5 _ rfl)
  have c6 := fun z : BelW V => (show z.w.cell? ⟨w.heap.size, 6, none⟩ = some (.slice HA hi.length hc) from BelW.range HBB.out z 6 _ rfl)
  have c7 := fun z : BelW V => (show z.w.cell? ⟨w.heap.size, 7, none⟩ = some (.int .i64 pos) from BelW.range HBB.out z 7 _ rfl)
  have c8 := fun z : BelW V => (show z.w.cell? ⟨w.heap.size, 8, none⟩ = some (.int .i64 spd) from BelW.range HBB.out z 8 _ rfl)
  have c9 := fun z : BelW V => (show z.w.cell? ⟨w.heap.size, 9, none⟩ = some (.int .i64 leak) from BelW.range HBB.out z 9 _ rfl)
  have c10 := fun z : BelW V => (show z.w.cell? ⟨w.heap.size, 10, none⟩ = some (.int .i64 crest) from BelW.range HBB.out z 10 _ rfl)
  have c11 := fun z : BelW V => (show z.w.cell? ⟨w.heap.size, 11, none⟩ = some (.int .i64 num) from BelW.range HBB.out z 11 _ rfl)
  have c12 := fun z : BelW V => (show z.w.cell? ⟨w.heap.size, 12, none⟩ = some (.int .i64 den) from BelW.range HBB.out z 12 _ rfl)
  have c13 := fun z : BelW V => (show z.w.cell? ⟨w.heap.size, 13, none⟩ = some (.int .i64 prime) from BelW.range HBB.out z 13 _ rfl)
  have c14 := fun z : BelW V => (show z.w.cell? ⟨w.heap.size, 14, none⟩ = some (.int .i64 brk) from BelW.range HBB.out z 14 _ rfl)
  have c15 := fun z : BelW V => (show z.w.cell? ⟨w.heap.size, 15, none⟩ = some (.int .i64 bnum) from BelW.range HBB.out z 15 _ rfl)
  have c16 := fun z : BelW V => (show z.w.cell? ⟨w.heap.size, 16, none⟩ = some (.int .i64 bden) from BelW.range HBB.out z 16 _ rfl)
  clear HBB
  by_cases p_rate : 0 < rate.length
  · have t_rate : decide ((0 : Int) < (rate.length : Int)) = true := decide_eq_true (by omega)
    (go_wp2_with fail; all_goals (go_ret; exact ⟨by rw [HF.out]; simp [unusedB, *], HG.out _⟩))
  have t_rate : decide ((0 : Int) < (rate.length : Int)) = false := decide_eq_false (by omega)
  by_cases p_lo : 0 < lo.length
  · have t_lo : decide ((0 : Int) < (lo.length : Int)) = true := decide_eq_true (by omega)
    (go_wp2_with fail; all_goals (go_ret; exact ⟨by rw [HF.out]; simp [unusedB, *], HG.out _⟩))
  have t_lo : decide ((0 : Int) < (lo.length : Int)) = false := decide_eq_false (by omega)
  by_cases p_hi : 0 < hi.length
  · have t_hi : decide ((0 : Int) < (hi.length : Int)) = true := decide_eq_true (by omega)
    (go_wp2_with fail; all_goals (go_ret; exact ⟨by rw [HF.out]; simp [unusedB, *], HG.out _⟩))
  have t_hi : decide ((0 : Int) < (hi.length : Int)) = false := decide_eq_false (by omega)
  by_cases p_leak : leak = 0
  case neg =>
    have t_leak : (leak != 0) = true := bne_iff_ne.2 p_leak
    (go_wp2_with fail; all_goals (go_ret; exact ⟨by rw [HF.out]; simp [unusedB, *], HG.out _⟩))
  have t_leak : (leak != 0) = false := bne_eq_false_iff_eq.2 p_leak
  go_upto_region 4 with fail
  by_cases p_pos : pos = 0
  case neg =>
    have t_pos : (pos != 0) = true := bne_iff_ne.2 p_pos
    (go_wp2_with fail; all_goals (go_ret; exact ⟨by rw [HF.out]; simp [unusedB, *], HG.out _⟩))
  have t_pos : (pos != 0) = false := bne_eq_false_iff_eq.2 p_pos
  by_cases p_spd : spd = 0
  case neg =>
    have t_spd : (spd != 0) = true := bne_iff_ne.2 p_spd
    (go_wp2_with fail; all_goals (go_ret; exact ⟨by rw [HF.out]; simp [unusedB, *], HG.out _⟩))
  have t_spd : (spd != 0) = false := bne_eq_false_iff_eq.2 p_spd
  go_upto_region 6 with fail
  by_cases p_crest : crest = 0
  case neg =>
    have t_crest : (crest != 0) = true := bne_iff_ne.2 p_crest
    (go_wp2_with fail; all_goals (go_ret; exact ⟨by rw [HF.out]; simp [unusedB, *], HG.out _⟩))
  have t_crest : (crest != 0) = false := bne_eq_false_iff_eq.2 p_crest
  go_upto_region 8 with fail
  by_cases p_prime : prime = 0
  case neg =>
    have t_prime : (prime != 0) = true := bne_iff_ne.2 p_prime
    (go_wp2_with fail; all_goals (go_ret; exact ⟨by rw [HF.out]; simp [unusedB, *], HG.out _⟩))
  have t_prime : (prime != 0) = false := bne_eq_false_iff_eq.2 p_prime
  by_cases p_brk : brk = 0
  case neg =>
    have t_brk : (brk != 0) = true := bne_iff_ne.2 p_brk
    (go_wp2_with fail; all_goals (go_ret; exact ⟨by rw [HF.out]; simp [unusedB, *], HG.out _⟩))
  have t_brk : (brk != 0) = false := bne_eq_false_iff_eq.2 p_brk
  go_upto_region 12 with fail
  (go_wp2_with fail; all_goals (go_ret; exact ⟨by rw [HF.out]; simp [unusedB, *], HG.out _⟩))
theorem unused_is (nm : ByteArray) (kind fr to' : Int) (RA : Option Addr) (rc : Nat) (rate : List Sp) (LA : Option Addr) (lc : Nat) (lo : List Sp) (HA : Option Addr) (hc : Nat) (hi : List Sp) (pos spd leak crest num den prime brk bnum bden delay : Int) (hk : 0 ≤ kind ∧ kind ≤ 5) (w : World) :
    Calls Tryz.prog 83 #[.agg #[.string nm, .int .i64 kind, .int .i64 fr, .int .i64 to', .slice RA rate.length rc, .slice LA lo.length lc, .slice HA hi.length hc, .int .i64 pos, .int .i64 spd, .int .i64 leak, .int .i64 crest, .int .i64 num, .int .i64 den, .int .i64 prime, .int .i64 brk, .int .i64 bnum, .int .i64 bden, .int .i64 delay]] w fun e w' => e = .returned (.bool (unusedB ⟨nm, kind, fr, to', RA, rc, rate, LA, lc, lo, HA, hc, hi, pos, spd, leak, crest, num, den, prime, brk, bnum, bden, delay⟩)) ∧ Below w.heap.size w w' := by
  have h : kind = 0 ∨ kind = 1 ∨ kind = 5 ∨ kind = 2 ∨ kind = 3 ∨ kind = 4 := by omega
  rcases h with rfl | rfl | rfl | rfl | rfl | rfl
  · exact unused0 nm fr to' RA rc rate LA lc lo HA hc hi pos spd leak crest num den prime brk bnum bden delay w
  · exact unused1 nm fr to' RA rc rate LA lc lo HA hc hi pos spd leak crest num den prime brk bnum bden delay w
  · exact unused5 nm fr to' RA rc rate LA lc lo HA hc hi pos spd leak crest num den prime brk bnum bden delay w
  · exact unused2 nm fr to' RA rc rate LA lc lo HA hc hi pos spd leak crest num den prime brk bnum bden delay w
  · exact unused3 nm fr to' RA rc rate LA lc lo HA hc hi pos spd leak crest num den prime brk bnum bden delay w
  · exact unused4 nm fr to' RA rc rate LA lc lo HA hc hi pos spd leak crest num den prime brk bnum bden delay w
end Go.Proofs.YtngjakahanmepaaGreatDoor
