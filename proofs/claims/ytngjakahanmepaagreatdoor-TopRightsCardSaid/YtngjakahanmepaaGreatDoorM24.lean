/- Part 24 of the proof of TopRights: basin.rightFields. -/
import Derived.Test.YtngjakahanmepaaGreatDoorM21
import Derived.Test.YtngjakahanmepaaGreatDoorM23
namespace Go.Proofs.YtngjakahanmepaaGreatDoor
open Go.RowKit
set_option linter.unusedVariables false
set_option linter.unusedSimpArgs false
noncomputable def fieldsB (x : Lk) : Bool :=
  if x.kind = 0 then rightB x.rate && rightB x.lo && rightB x.hi && underB x.lo x.rate && underB x.rate x.hi && inB x.pos 0 64 && inB x.spd 0 x.pos && volB x.leak && fracB x.bnum x.bden && (!(x.to' == -1) || x.bden == 0)
  else if x.kind = 1 ∨ x.kind = 5 then volB x.crest && volB x.num && inB x.den 1 1125899906842624
  else if x.kind = 2 then volB x.num && inB x.pos 1 64 && inB x.spd 0 x.pos
  else if x.kind = 3 then volB x.num && inB x.den 1 1125899906842624 && volB x.prime && volB x.brk && decide (x.brk < x.prime)
  else volB x.num && inB x.den 1 1125899906842624 && fracB x.bnum x.bden && !(x.to' == -1)
set_option maxHeartbeats 32000000 in
set_option maxRecDepth 100000 in
theorem fields_is (nm : ByteArray) (kind fr to' : Int) (RA : Option Addr) (rc : Nat) (rate : List Sp) (LA : Option Addr) (lc : Nat) (lo : List Sp) (HA : Option Addr) (hc : Nat) (hi : List Sp) (pos spd leak crest num den prime brk bnum bden delay : Int) (hr : rate.length ≤ 9223372036854775807) (hl : lo.length ≤ 9223372036854775807) (hh : hi.length ≤ 9223372036854775807) (w : World) (h1 : Rd w RA (spCells rate)) (h2 : Rd w LA (spCells lo)) (h3 : Rd w HA (spCells hi)) :
    Calls Tryz.prog 82 #[.agg #[.string nm, .int .i64 kind, .int .i64 fr, .int .i64 to', .slice RA rate.length rc, .slice LA lo.length lc, .slice HA hi.length hc, .int .i64 pos, .int .i64 spd, .int .i64 leak, .int .i64 crest, .int .i64 num, .int .i64 den, .int .i64 prime, .int .i64 brk, .int .i64 bnum, .int .i64 bden, .int .i64 delay]] w fun e w' => e = .returned (.bool (fieldsB ⟨nm, kind, fr, to', RA, rc, rate, LA, lc, lo, HA, hc, hi, pos, spd, leak, crest, num, den, prime, brk, bnum, bden, delay⟩)) ∧ Below w.heap.size w w' := by
  obtain ⟨R, hR⟩ : ∃ b, fieldsB ⟨nm, kind, fr, to', RA, rc, rate, LA, lc, lo, HA, hc, hi, pos, spd, leak, crest, num, den, prime, brk, bnum, bden, delay⟩ = b := ⟨_, rfl⟩
  rw [hR]
  have HF := Lib.hid hR.symm
  clear hR
  go_enter Tryz.func82, Tryz.ntmps82
  go_upto_region 1 with fail
  refine wp_rebase _ (fun V hV x0 => ?_)
  have HB0 := Lib.hid (show Below w.heap.size w V by rw [hV]; exact bel_alloc (Below.refl _ _) _)
  have HBB := Lib.hid (show V.rangeAt w.heap.size 0 [.string nm, .int .i64 kind, .int .i64 fr, .int .i64 to', .slice RA rate.length rc, .slice LA lo.length lc, .slice HA hi.length hc, .int .i64 pos, .int .i64 spd, .int .i64 leak, .int .i64 crest, .int .i64 num, .int .i64 den, .int .i64 prime, .int .i64 brk, .int .i64 bnum, .int .i64 bden, .int .i64 delay] by rw [hV]; exact range_new _ _ [.string nm, .int .i64 kind, .int .i64 fr, .int .i64 to', .slice RA rate.length rc, .slice LA lo.length lc, .slice HA hi.length hc, .int .i64 pos, .int .i64 spd, .int .i64 leak, .int .i64 crest, .int .i64 num, .int .i64 den, .int .i64 prime, .int .i64 brk, .int .i64 bnum, .int .i64 bden, .int .i64 delay])
  have HG := Lib.hid (fun z : BelW V => (show Below w.heap.size w z.w from below_next HB0.out z.2))
  have HRD := Lib.hid (fun z : BelW V => (show Rd z.w RA (spCells rate) ∧ Rd z.w LA (spCells lo) ∧ Rd z.w HA (spCells hi) from ⟨h1.below (Nat.le_refl _) (HG.out z), h2.below (Nat.le_refl _) (HG.out z), h3.below (Nat.le_refl _) (HG.out z)⟩))
  clear hV h1 h2 h3
  have CI := Lib.hid (fun (z : BelW V) (n lo hi : Int) => bel_of (x := z) (in_is n lo hi z.w))
  have CV := Lib.hid (fun (z : BelW V) (n : Int) => bel_of (x := z) (volume_is n z.w))
  have CF := Lib.hid (fun (z : BelW V) (n d : Int) => bel_of (x := z) (fraction_is n d z.w))
  have CR := Lib.hid (fun (z : BelW V) (A : Option Addr) (c : Nat) (l : List Sp) (h : l.length ≤ 9223372036854775807) (r : Rd z.w A (spCells l)) => bel_of (x := z) (right_is A c l h z.w r))
  have CU := Lib.hid (fun (z : BelW V) (A A' : Option Addr) (c c' : Nat) (l l' : List Sp) (h : l.length ≤ 9223372036854775807) (h' : l'.length ≤ 9223372036854775807) (r : Rd z.w A (spCells l)) (r' : Rd z.w A' (spCells l')) => bel_of (x := z) (under_is A A' c c' l l' h h' z.w r r'))
  have c1 := fun z : BelW V => (show z.w.cell? ⟨w.heap.size, 1, none⟩ = some (.int .i64 kind) from BelW.range HBB.out z 1 _ rfl)
  have c2 := fun z : BelW V => (show z.w.cell? ⟨w.heap.size, 2, none⟩ = some (.int .i64 fr) from BelW.range HBB.out z 2 _ rfl)
  have c3 := fun z : BelW V => (show z.w.cell? ⟨w.heap.size, 3, none⟩ = some (.int .i64 to') from BelW.range HBB.out z 3 _ rfl)
  have c4 := fun z : BelW V => (show z.w.cell? ⟨w.heap.size, 4, none⟩ = some (.slice RA rate.length rc) from BelW.range HBB.out z 4 _ rfl)
  have c5 := fun z : BelW V => (show z.w.cell? ⟨w.heap.size, 5, none⟩ = some (.slice LA lo.length lc) from BelW.range HBB.out z 5 _ rfl)
  have c6 := fun z : BelW V => (show z.w.cell? ⟨w.heap.size, 6, none⟩ = some (.slice HA hi.length hc) from BelW.range HBB.out z 6 _ rfl)
  have c7 := fun z : BelW V => (show z.w.cell? ⟨w.heap.size, 7, none⟩ = some (.int .i64 pos) from BelW.range HBB.out z 7 _ rfl)
  have c8 := fun z : BelW V => (show z.w.cell? ⟨w.heap.size, 8, none⟩ = some (.int .i64 spd) from BelW.range HBB.out z 8 _ rfl)
  have c9 := fun z : BelW V => (show z.w.cell? ⟨w.heap.size, 9, none⟩ = some (.int .i64 leak) from BelW.range HBB.out z 9 _ rfl)
  have c10 := fun z : BelW V => (show z.w.cell? ⟨w.heap.size, 10, none⟩ = some (.int .i64 crest) from BelW.range HBB.out z 10 _ rfl)
  have c11 := fun z : BelW V => (show z.w.cell? ⟨w.heap.size, 11, none⟩ = some (.int .i64 num) from BelW.range HBB.out z 11 _ rfl)
  have c12 := fun z : BelW V => (show z.w.cell? ⟨w.heap.size, 12, none⟩ = some (.int .i64 den) from BelW.range HBB.out z 12 _ rfl)
  have c13 := fun z : BelW V => (show z.w.cell? ⟨w.heap.size, 13, none⟩ = some (.int .i64 prime) from BelW.range HBB.out z 13 _ rfl)
  have c14 := fun z : BelW V => (show z.w.cell? ⟨w.heap.size, 14, none⟩ = some (.int .i64 brk) from BelW.range HBB.out z 14 _ rfl)
  have c15 := fun z : BelW V => (show z.w.cell? ⟨w.heap.size, 15, none⟩ = some (.int .i64 bnum) from BelW.range HBB.out z 15 _ rfl)
  have c16 := fun z : BelW V => (show z.w.cell? ⟨w.heap.size, 16, none⟩ = some (.int .i64 bden) from BelW.range HBB.out z 16 _ rfl)
  have c17 := fun z : BelW V => (show z.w.cell? ⟨w.heap.size, 17, none⟩ = some (.int .i64 delay) from BelW.range HBB.out z 17 _ rfl)
  by_cases k0 : kind = 0
  case pos =>
    subst k0
    all_goals go_wp2_with (first
      | (go_at_call 75; (with_reducible refine (CV.out _ _).mono ?_); rintro e w1 ⟨rfl, z, rfl⟩; generalize hq2 : volB _ = b; cases b)
      | (go_at_call 74; (with_reducible refine (CI.out _ _ _ _).mono ?_); rintro e w1 ⟨rfl, z, rfl⟩; generalize hq3 : inB _ _ _ = b; cases b)
      | (go_at_call 79; (with_reducible refine (CF.out _ _ _).mono ?_); rintro e w1 ⟨rfl, z, rfl⟩; generalize hq4 : fracB _ _ = b; cases b)
      | (go_at_call 78; (with_reducible refine (CR.out _ _ _ _ (by first | exact hr | exact hl | exact hh) (by first | exact (HRD.out _).1 | exact (HRD.out _).2.1 | exact (HRD.out _).2.2)).mono ?_); rintro e w1 ⟨rfl, z, rfl⟩; generalize hq5 : rightB _ = b; cases b)
      | (go_at_call 110; (with_reducible refine (CU.out _ _ _ _ _ _ _ (by first | exact hr | exact hl | exact hh) (by first | exact hr | exact hl | exact hh) (by first | exact (HRD.out _).1 | exact (HRD.out _).2.1 | exact (HRD.out _).2.2) (by first | exact (HRD.out _).1 | exact (HRD.out _).2.1 | exact (HRD.out _).2.2)).mono ?_); rintro e w1 ⟨rfl, z, rfl⟩; generalize hq8 : underB _ _ = b; cases b))
    all_goals (go_ret; exact ⟨by rw [HF.out]; simp [fieldsB, *], HG.out _⟩)
  by_cases k1 : kind = 1
  case pos =>
    subst k1
    all_goals go_wp2_with (first
      | (go_at_call 75; (with_reducible refine (CV.out _ _).mono ?_); rintro e w1 ⟨rfl, z, rfl⟩; generalize hq2 : volB _ = b; cases b)
      | (go_at_call 74; (with_reducible refine (CI.out _ _ _ _).mono ?_); rintro e w1 ⟨rfl, z, rfl⟩; generalize hq3 : inB _ _ _ = b; cases b)
      | (go_at_call 79; (with_reducible refine (CF.out _ _ _).mono ?_); rintro e w1 ⟨rfl, z, rfl⟩; generalize hq4 : fracB _ _ = b; cases b)
      | (go_at_call 78; (with_reducible refine (CR.out _ _ _ _ (by first | exact hr | exact hl | exact hh) (by first | exact (HRD.out _).1 | exact (HRD.out _).2.1 | exact (HRD.out _).2.2)).mono ?_); rintro e w1 ⟨rfl, z, rfl⟩; generalize hq5 : rightB _ = b; cases b)
      | (go_at_call 110; (with_reducible refine (CU.out _ _ _ _ _ _ _ (by first | exact hr | exact hl | exact hh) (by first | exact hr | exact hl | exact hh) (by first | exact (HRD.out _).1 | exact (HRD.out _).2.1 | exact (HRD.out _).2.2) (by first | exact (HRD.out _).1 | exact (HRD.out _).2.1 | exact (HRD.out _).2.2)).mono ?_); rintro e w1 ⟨rfl, z, rfl⟩; generalize hq8 : underB _ _ = b; cases b))
    all_goals (go_ret; exact ⟨by rw [HF.out]; simp [fieldsB, *], HG.out _⟩)
  by_cases k5 : kind = 5
  case pos =>
    subst k5
    all_goals go_wp2_with (first
      | (go_at_call 75; (with_reducible refine (CV.out _ _).mono ?_); rintro e w1 ⟨rfl, z, rfl⟩; generalize hq2 : volB _ = b; cases b)
      | (go_at_call 74; (with_reducible refine (CI.out _ _ _ _).mono ?_); rintro e w1 ⟨rfl, z, rfl⟩; generalize hq3 : inB _ _ _ = b; cases b)
      | (go_at_call 79; (with_reducible refine (CF.out _ _ _).mono ?_); rintro e w1 ⟨rfl, z, rfl⟩; generalize hq4 : fracB _ _ = b; cases b)
      | (go_at_call 78; (with_reducible refine (CR.out _ _ _ _ (by first | exact hr | exact hl | exact hh) (by first | exact (HRD.out _).1 | exact (HRD.out _).2.1 | exact (HRD.out _).2.2)).mono ?_); rintro e w1 ⟨rfl, z, rfl⟩; generalize hq5 : rightB _ = b; cases b)
      | (go_at_call 110; (with_reducible refine (CU.out _ _ _ _ _ _ _ (by first | exact hr | exact hl | exact hh) (by first | exact hr | exact hl | exact hh) (by first | exact (HRD.out _).1 | exact (HRD.out _).2.1 | exact (HRD.out _).2.2) (by first | exact (HRD.out _).1 | exact (HRD.out _).2.1 | exact (HRD.out _).2.2)).mono ?_); rintro e w1 ⟨rfl, z, rfl⟩; generalize hq8 : underB _ _ = b; cases b))
    all_goals (go_ret; exact ⟨by rw [HF.out]; simp [fieldsB, *], HG.out _⟩)
  by_cases k2 : kind = 2
  case pos =>
    subst k2
    all_goals go_wp2_with (first
      | (go_at_call 75; (with_reducible refine (CV.out _ _).mono ?_); rintro e w1 ⟨rfl, z, rfl⟩; generalize hq2 : volB _ = b; cases b)
      | (go_at_call 74; (with_reducible refine (CI.out _ _ _ _).mono ?_); rintro e w1 ⟨rfl, z, rfl⟩; generalize hq3 : inB _ _ _ = b; cases b)
      | (go_at_call 79; (with_reducible refine (CF.out _ _ _).mono ?_); rintro e w1 ⟨rfl, z, rfl⟩; generalize hq4 : fracB _ _ = b; cases b)
      | (go_at_call 78; (with_reducible refine (CR.out _ _ _ _ (by first | exact hr | exact hl | exact hh) (by first | exact (HRD.out _).1 | exact (HRD.out _).2.1 | exact (HRD.out _).2.2)).mono ?_); rintro e w1 ⟨rfl, z, rfl⟩; generalize hq5 : rightB _ = b; cases b)
      | (go_at_call 110; (with_reducible refine (CU.out _ _ _ _ _ _ _ (by first | exact hr | exact hl | exact hh) (by first | exact hr | exact hl | exact hh) (by first | exact (HRD.out _).1 | exact (HRD.out _).2.1 | exact (HRD.out _).2.2) (by first | exact (HRD.out _).1 | exact (HRD.out _).2.1 | exact (HRD.out _).2.2)).mono ?_); rintro e w1 ⟨rfl, z, rfl⟩; generalize hq8 : underB _ _ = b; cases b))
    all_goals (go_ret; exact ⟨by rw [HF.out]; simp [fieldsB, *], HG.out _⟩)
  by_cases k3 : kind = 3
  case pos =>
    subst k3
    by_cases p1 : brk < prime
    all_goals (
      try (have t1 : decide (brk < prime) = true := decide_eq_true p1)
      try (have t1 : decide (brk < prime) = false := decide_eq_false p1))
    all_goals go_wp2_with (first
      | (go_at_call 75; (with_reducible refine (CV.out _ _).mono ?_); rintro e w1 ⟨rfl, z, rfl⟩; generalize hq2 : volB _ = b; cases b)
      | (go_at_call 74; (with_reducible refine (CI.out _ _ _ _).mono ?_); rintro e w1 ⟨rfl, z, rfl⟩; generalize hq3 : inB _ _ _ = b; cases b)
      | (go_at_call 79; (with_reducible refine (CF.out _ _ _).mono ?_); rintro e w1 ⟨rfl, z, rfl⟩; generalize hq4 : fracB _ _ = b; cases b)
      | (go_at_call 78; (with_reducible refine (CR.out _ _ _ _ (by first | exact hr | exact hl | exact hh) (by first | exact (HRD.out _).1 | exact (HRD.out _).2.1 | exact (HRD.out _).2.2)).mono ?_); rintro e w1 ⟨rfl, z, rfl⟩; generalize hq5 : rightB _ = b; cases b)
      | (go_at_call 110; (with_reducible refine (CU.out _ _ _ _ _ _ _ (by first | exact hr | exact hl | exact hh) (by first | exact hr | exact hl | exact hh) (by first | exact (HRD.out _).1 | exact (HRD.out _).2.1 | exact (HRD.out _).2.2) (by first | exact (HRD.out _).1 | exact (HRD.out _).2.1 | exact (HRD.out _).2.2)).mono ?_); rintro e w1 ⟨rfl, z, rfl⟩; generalize hq8 : underB _ _ = b; cases b))
    all_goals (go_ret; exact ⟨by rw [HF.out]; simp [fieldsB, *], HG.out _⟩)
  by_cases p1 : to' = -1
  all_goals (
    try subst p1
    try (have t1 : (to' == -1) = false := beq_eq_false_iff_ne.2 p1))
  all_goals go_wp2_with (first
      | (go_at_call 75; (with_reducible refine (CV.out _ _).mono ?_); rintro e w1 ⟨rfl, z, rfl⟩; generalize hq2 : volB _ = b; cases b)
      | (go_at_call 74; (with_reducible refine (CI.out _ _ _ _).mono ?_); rintro e w1 ⟨rfl, z, rfl⟩; generalize hq3 : inB _ _ _ = b; cases b)
      | (go_at_call 79; (with_reducible refine (CF.out _ _ _).mono ?_); rintro e w1 ⟨rfl, z, rfl⟩; generalize hq4 : fracB _ _ = b; cases b)
      | (go_at_call 78; (with_reducible refine (CR.out _ _ _ _ (by first | exact hr | exact hl | exact hh) (by first | exact (HRD.out _).1 | exact (HRD.out _).2.1 | exact (HRD.out _).2.2)).mono ?_); rintro e w1 ⟨rfl, z, rfl⟩; generalize hq5 : rightB _ = b; cases b)
      | (go_at_call 110; (with_reducible refine (CU.out _ _ _ _ _ _ _ (by first | exact hr | exact hl | exact hh) (by first | exact hr | exact hl | exact hh) (by first | exact (HRD.out _).1 | exact (HRD.out _).2.1 | exact (HRD.out _).2.2) (by first | exact (HRD.out _).1 | exact (HRD.out _).2.1 | exact (HRD.out _).2.2)).mono ?_); rintro e w1 ⟨rfl, z, rfl⟩; generalize hq8 : underB _ _ = b; cases b))
  all_goals (go_ret; exact ⟨by rw [HF.out]; simp [fieldsB, *], HG.out _⟩)
end Go.Proofs.YtngjakahanmepaaGreatDoor
