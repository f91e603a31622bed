/- Part 24 of the proof of TopRights: basin.rightFields. basin.steepest. -/
import Derived.Test.YtngjakahanmepaaGreatDoorM21
import Derived.Test.YtngjakahanmepaaGreatDoorM23
import Derived.Test.YtngjakahanmepaaGreatDoorM17
namespace Go.Proofs.YtngjakahanmepaaGreatDoor
open Go.RowKit
set_option linter.unusedVariables false
set_option linter.unusedSimpArgs false
noncomputable def fieldsB (x : Lk) : Bool :=
  if x.kind = 0 then rightB x.rate && rightB x.lo && rightB x.hi && underB x.lo x.rate && underB x.rate x.hi && inB x.pos 0 64 && inB x.spd 0 x.pos && volB x.leak && fracB x.bnum x.bden && (!(x.to' == -1) || x.bden == 0)
  else if x.kind = 1 ∨ x.kind = 5 then volB x.crest && volB x.num && inB x.den 1 1125899906842624
  else if x.kind = 2 then volB x.num && inB x.pos 1 64 && inB x.spd 0 x.pos
  else if x.kind = 3 then volB x.num && inB x.den 1 1125899906842624 && volB x.prime && volB x.brk && decide (x.brk < x.prime)
  else volB x.num && inB x.den 1 1125899906842624 && fracB x.bnum x.bden && !(x.to' == -1)
set_option maxHeartbeats 32000000 in
set_option maxRecDepth 100000 in
theorem fields_is (nm : ByteArray) (kind fr to' : Int) (RA : Option Addr) (rc : Nat) (rate : List Sp) (LA : Option Addr) (lc : Nat) (lo : List Sp) (HA : Option Addr) (hc : Nat) (hi : List Sp) (pos spd leak crest num den prime brk bnum bden delay : Int) (hr : rate.length ≤ 9223372036854775807) (hl : lo.length ≤ 9223372036854775807) (hh : hi.length ≤ 9223372036854775807) (w : World) (h1 : Rd w RA (spCells rate)) (h2 : Rd w LA (spCells lo)) (h3 : Rd w HA (spCells hi)) :
    Calls Tryz.prog 82 #[.agg #[.string nm, .int .i64 kind, .int .i64 fr, .int .i64 to', .slice RA rate.length rc, .slice LA lo.length lc, .slice HA hi.length hc, .int .i64 pos, .int .i64 spd, .int .i64 leak, .int .i64 crest, .int .i64 num, .int .i64 den, .int .i64 prime, .int .i64 brk, .int .i64 bnum, .int .i64 bden, .int .i64 delay]] w fun e w' => e = .returned (.bool (fieldsB ⟨nm, kind, fr, to', RA, rc, rate, LA, lc, lo, HA, hc, hi, pos, spd, leak, crest, num, den, prime, brk, bnum, bden, delay⟩)) ∧ Below w.heap.size w w' := by
  obtain ⟨R, hR⟩ : ∃ b, fieldsB ⟨nm, kind, fr, to', RA, rc, rate, LA, lc, lo, HA, hc, hi, pos, spd, leak, crest, num, den, prime, brk, bnum, bden, delay⟩ = b := ⟨_, rfl⟩
  rw [hR]
  have HF := Lib.hid hR.symm
  clear hR
  go_enter Tryz.func82, Tryz.ntmps82
  go_upto_region 1 with fail
  refine wp_rebase _ (fun V hV x0 => ?_)
  have HB0 := Lib.hid (show Below w.heap.size w V by rw [hV]; exact bel_alloc (Below.refl _ _) _)
  have HBB := Lib.hid (show V.rangeAt w.heap.size 0 [.string nm, .int .i64 kind, .int .i64 fr, .int .i64 to', .slice RA rate.length rc, .slice LA lo.length lc, .slice HA hi.length hc, .int .i64 pos, .int .i64 spd, .int .i64 leak, .int .i64 crest, .int .i64 num, .int .i64 den, .int .i64 prime, .int .i64 brk, .int .i64 bnum, .int .i64 bden, .int .i64 delay] by rw [hV]; exact range_new _ _ [.string nm, .int .i64 kind, .int .i64 fr, .int .i64 to', .slice RA rate.length rc, .slice LA lo.length lc, .slice HA hi.length hc, .int .i64 pos, .int .i64 spd, .int .i64 leak, .int .i64 crest, .int .i64 num, .int .i64 den, .int .i64 prime, .int .i64 brk, .int .i64 bnum, .int .i64 bden, .int .i64 delay])
  have HG := Lib.hid (fun z : BelW V => (show Below w.heap.size w z.w from below_next HB0.out z.2))
  have HRD := Lib.hid (fun z : BelW V => (show Rd z.w RA (spCells rate) ∧ Rd z.w LA (spCells lo) ∧ Rd z.w HA (spCells hi) from ⟨h1.below (Nat.le_refl _) (HG.out z), h2.below (Nat.le_refl _) (HG.out z), h3.below (Nat.le_refl _) (HG.out z)⟩))
  clear hV h1 h2 h3
  have CI := Lib.hid (fun (z : BelW V) (n lo hi : Int) => bel_of (x := z) (in_is n lo hi z.w))
  have CV := Lib.hid (fun (z : BelW V) (n : Int) => bel_of (x := z) (volume_is n z.w))
  have CF := Lib.hid (fun (z : BelW V) (n d : Int) => bel_of (x := z) (fraction_is n d z.w))
  have CR := Lib.hid (fun (z : BelW V) (A : Option Addr) (c : Nat) (l : List Sp) (h : l.length ≤ 9223372036854775807) (r : Rd z.w A (spCells l)) => bel_of (x := z) (right_is A c l h z.w r))
  have CU := Lib.hid (fun (z : BelW V) (A A' : Option Addr) (c c' : Nat) (l l' : List Sp) (h : l.length ≤ 9223372036854775807) (h' : l'.length ≤ 9223372036854775807) (r : Rd z.w A (spCells l)) (r' : Rd z.w A' (spCells l')) => bel_of (x := z) (under_is A A' c c' l l' h h' z.w r r'))
  have c1 := fun z : BelW V => (show z.w.cell? ⟨w.heap.size, 1, none⟩ = some (.int .i64 kind) from BelW.range HBB.out z 1 _ rfl)
  have c2 := fun z : BelW V => (show z.w.cell? ⟨w.heap.size, 2, none⟩ = some (.int .i64 fr) from BelW.range HBB.out z 2 _ rfl)
  have c3 := fun z : BelW V => (show z.w.cell? ⟨w.heap.size, 3, none⟩ = some (.int .i64 to') from BelW.range HBB.out z 3 _ rfl)
  have c4 := fun z : BelW V => (show z.w.cell? ⟨w.heap.size, 4, none⟩ = some (.slice RA rate.length rc) from BelW.range HBB.out z 4 _ rfl)
  have c5 := fun z : BelW V => (show z.w.cell? ⟨w.heap.size, 5, none⟩ = some (.slice LA lo.length lc) from BelW.range HBB.out z 5 _ rfl)
  have c6 := fun z : BelW V => (show z.w.cell? ⟨w.heap.size, 6, none⟩ = some (.slice HA hi.length hc) from BelW.range HBB.out z 6 _ rfl)
  have c7 := fun z : BelW V => (show z.w.cell? ⟨w.heap.size, 7, none⟩ = some (.int .i64 pos) from BelW.range HBB.out z 7 _ rfl)
  have c8 := fun z : BelW V => (show z.w.cell? ⟨w.heap.size, 8, none⟩ = some (.int .i64 spd) from BelW.range HBB.out z 8 _ rfl)
  have c9 := fun z : BelW V => (show z.w.cell? ⟨w.heap.size, 9, none⟩ = some (.int .i64 leak) from BelW.range HBB.out z 9 _ rfl)
  have c10 := fun z : BelW V => (show z.w.cell? ⟨w.heap.size, 10, none⟩ = some (.int .i64 crest) from BelW.range HBB.out z 10 _ rfl)
  have c11 := fun z : BelW V => (show z.w.cell? ⟨w.heap.size, 11, none⟩ = some (.int .i64 num) from BelW.range HBB.out z 11 _ rfl)
  have c12 := fun z : BelW V => (show z.w.cell? ⟨w.heap.size, 12, none⟩ = some (.int .i64 den) from BelW.range HBB.out z 12 _ rfl)
  have c13 := fun z : BelW V => (show z.w.cell? ⟨w.heap.size, 13, none⟩ = some (.int .i64 prime) from BelW.range HBB.out z 13 _ rfl)
  have c14 := fun z : BelW V => (show z.w.cell? ⟨w.heap.size, 14, none⟩ = some (.int .i64 brk) from BelW.range HBB.out z 14 _ rfl)
  have c15 := fun z : BelW V => (show z.w.cell? ⟨w.heap.size, 15, none⟩ = some (.int .i64 bnum) from BelW.range HBB.out z 15 _ rfl)
  have c16 := fun z : BelW V => (show z.w.cell? ⟨w.heap.size, 16, none⟩ = some (.int .i64 bden) from BelW.range HBB.out z 16 _ rfl)
  have c17 := fun z : BelW V => (show z.w.cell? ⟨w.heap.size, 17, none⟩ = some (.int .i64 delay) from BelW.range HBB.out z 17 _ rfl)
  by_cases k0 : kind = 0
  case pos =>
    subst k0
    all_goals go_wp2_with (first
      | (go_at_call 75; (with_reducible refine (CV.out _ _).mono ?_); rintro e w1 ⟨rfl, z, rfl⟩; generalize hq2 : volB _ = b; cases b)
      | (go_at_call 74; (with_reducible refine (CI.out _ _ _ _).mono ?_); rintro e w1 ⟨rfl, z, rfl⟩; generalize hq3 : inB _ _ _ = b; cases b)
      | (go_at_call 79; (with_reducible refine (CF.out _ _ _).mono ?_); rintro e w1 ⟨rfl, z, rfl⟩; generalize hq4 : fracB _ _ = b; cases b)
      | (go_at_call 78; (with_reducible refine (CR.out _ _ _ _ (by first | exact hr | exact hl | exact hh) (by first | exact (HRD.out _).1 | exact (HRD.out _).2.1 | exact (HRD.out _).2.2)).mono ?_); rintro e w1 ⟨rfl, z, rfl⟩; generalize hq5 : rightB _ = b; cases b)
      | (go_at_call 110; (with_reducible refine (CU.out _ _ _ _ _ _ _ (by first | exact hr | exact hl | exact hh) (by first | exact hr | exact hl | exact hh) (by first | exact (HRD.out _).1 | exact (HRD.out _).2.1 | exact (HRD.out _).2.2) (by first | exact (HRD.out _).1 | exact (HRD.out _).2.1 | exact (HRD.out _).2.2)).mono ?_); rintro e w1 ⟨rfl, z, rfl⟩; generalize hq8 : underB _ _ = b; cases b))
    all_goals (go_ret; exact ⟨by rw [HF.out]; simp [fieldsB, *], HG.out _⟩)
  by_cases k1 : kind = 1
  case pos =>
    subst k1
    all_goals go_wp2_with (first
      | (go_at_call 75; (with_reducible refine (CV.out _ _).mono ?_); rintro e w1 ⟨rfl, z, rfl⟩; generalize hq2 : volB _ = b; cases b)
      | (go_at_call 74; (with_reducible refine (CI.out _ _ _ _).mono ?_); rintro e w1 ⟨rfl, z, rfl⟩; generalize hq3 : inB _ _ _ = b; cases b)
      | (go_at_call 79; (with_reducible refine (CF.out _ _ _).mono ?_); rintro e w1 ⟨rfl, z, rfl⟩; generalize hq4 : fracB _ _ = b; cases b)
      | (go_at_call 78; (with_reducible refine (CR.out _ _ _ _ (by first | exact hr | exact hl | exact hh) (by first | exact (HRD.out _).1 | exact (HRD.out _).2.1 | exact (HRD.out _).2.2)).mono ?_); rintro e w1 ⟨rfl, z, rfl⟩; generalize hq5 : rightB _ = b; cases b)
      | (go_at_call 110; (with_reducible refine (CU.out _ _ _ _ _ _ _ (by first | exact hr | exact hl | exact hh) (by first | exact hr | exact hl | exact hh) (by first | exact (HRD.out _).1 | exact (HRD.out _).2.1 | exact (HRD.out _).2.2) (by first | exact (HRD.out _).1 | exact (HRD.out _).2.1 | exact (HRD.out _).2.2)).mono ?_); rintro e w1 ⟨rfl, z, rfl⟩; generalize hq8 : underB _ _ = b; cases b))
    all_goals (go_ret; exact ⟨by rw [HF.out]; simp [fieldsB, *], HG.out _⟩)
  by_cases k5 : kind = 5
  case pos =>
    subst k5
    all_goals go_wp2_with (first
      | (go_at_call 75; (with_reducible refine (CV.out _ _).mono ?_); rintro e w1 ⟨rfl, z, rfl⟩; generalize hq2 : volB _ = b; cases b)
      | (go_at_call 74; (with_reducible refine (CI.out _ _ _ _).mono ?_); rintro e w1 ⟨rfl, z, rfl⟩; generalize hq3 : inB _ _ _ = b; cases b)
      | (go_at_call 79; (with_reducible refine (CF.out _ _ _).mono ?_); rintro e w1 ⟨rfl, z, rfl⟩; generalize hq4 : fracB _ _ = b; cases b)
      | (go_at_call 78; (with_reducible refine (CR.out _ _ _ _ (by first | exact hr | exact hl | exact hh) (by first | exact (HRD.out _).1 | exact (HRD.out _).2.1 | exact (HRD.out _).2.2)).mono ?_); rintro e w1 ⟨rfl, z, rfl⟩; generalize hq5 : rightB _ = b; cases b)
      | (go_at_call 110; (with_reducible refine (CU.out _ _ _ _ _ _ _ (by first | exact hr | exact hl | exact hh) (by first | exact hr | exact hl | exact hh) (by first | exact (HRD.out _).1 | exact (HRD.out _).2.1 | exact (HRD.out _).2.2) (by first | exact (HRD.out _).1 | exact (HRD.out _).2.1 | exact (HRD.out _).2.2)).mono ?_); rintro e w1 ⟨rfl, z, rfl⟩; generalize hq8 : underB _ _ = b; cases b))
    all_goals (go_ret; exact ⟨by rw [HF.out]; simp [fieldsB, *], HG.out _⟩)
  by_cases k2 : kind = 2
  case pos =>
    subst k2
    all_goals go_wp2_with (first
      | (go_at_call 75; (with_reducible refine (CV.out _ _).mono ?_); rintro e w1 ⟨rfl, z, rfl⟩; generalize hq2 : volB _ = b; cases b)
      | (go_at_call 74; (with_reducible refine (CI.out _ _ _ _).mono ?_); rintro e w1 ⟨rfl, z, rfl⟩; generalize hq3 : inB _ _ _ = b; cases b)
      | (go_at_call 79; (with_reducible refine (CF.out _ _ _).mono ?_); rintro e w1 ⟨rfl, z, rfl⟩; generalize hq4 : fracB _ _ = b; cases b)
      | (go_at_call 78; (with_reducible refine (CR.out _ _ _ _ (by first | exact hr | exact hl | exact hh) (by first | exact (HRD.out _).1 | exact (HRD.out _).2.1 | exact (HRD.out _).2.2)).mono ?_); rintro e w1 ⟨rfl, z, rfl⟩; generalize hq5 : rightB _ = b; cases b)
      | (go_at_call 110; (with_reducible refine (CU.out _ _ _ _ _ _ _ (by first | exact hr | exact hl | exact hh) (by first | exact hr | exact hl | exact hh) (by first | exact (HRD.out _).1 | exact (HRD.out _).2.1 | exact (HRD.out _).2.2) (by first | exact (HRD.out _).1 | exact (HRD.out _).2.1 | exact (HRD.out _).2.2)).mono ?_); rintro e w1 ⟨rfl, z, rfl⟩; generalize hq8 : underB _ _ = b; cases b))
    all_goals (go_ret; exact ⟨by rw [HF.out]; simp [fieldsB, *], HG.out _⟩)
  by_cases k3 : kind = 3
  case pos =>
    subst k3
    by_cases p1 : brk < prime
    all_goals (
      try (have t1 : decide (brk < prime) = true := decide_eq_true p1)
      try (have t1 : decide (brk < prime) = false := decide_eq_false p1))
    all_goals go_wp2_with (first
      | (go_at_call 75; (with_reducible refine (CV.out _ _).mono ?_); rintro e w1 ⟨rfl, z, rfl⟩; generalize hq2 : volB _ = b; cases b)
      | (go_at_call 74; (with_reducible refine (CI.out _ _ _ _).mono ?_); rintro e w1 ⟨rfl, z, rfl⟩; generalize hq3 : inB _ _ _ = b; cases b)
      | (go_at_call 79; (with_reducible refine (CF.out _ _ _).mono ?_); rintro e w1 ⟨rfl, z, rfl⟩; generalize hq4 : fracB _ _ = b; cases b)
      | (go_at_call 78; (with_reducible refine (CR.out _ _ _ _ (by first | exact hr | exact hl | exact hh) (by first | exact (HRD.out _).1 | exact (HRD.out _).2.1 | exact (HRD.out _).2.2)).mono ?_); rintro e w1 ⟨rfl, z, rfl⟩; generalize hq5 : rightB _ = b; cases b)
      | (go_at_call 110; (with_reducible refine (CU.out _ _ _ _ _ _ _ (by first | exact hr | exact hl | exact hh) (by first | exact hr | exact hl | exact hh) (by first | exact (HRD.out _).1 | exact (HRD.out _).2.1 | exact (HRD.out _).2.2) (by first | exact (HRD.out _).1 | exact (HRD.out _).2.1 | exact (HRD.out _).2.2)).mono ?_); rintro e w1 ⟨rfl, z, rfl⟩; generalize hq8 : underB _ _ = b; cases b))
    all_goals (go_ret; exact ⟨by rw [HF.out]; simp [fieldsB, *], HG.out _⟩)
  by_cases p1 : to' = -1
  all_goals (
    try subst p1
    try (have t1 : (to' == -1) = false := beq_eq_false_iff_ne.2 p1))
  all_goals go_wp2_with (first
      | (go_at_call 75; (with_reducible refine (CV.out _ _).mono ?_); rintro e w1 ⟨rfl, z, rfl⟩; generalize hq2 : volB _ = b; cases b)
      | (go_at_call 74; (with_reducible refine (CI.out _ _ _ _).mono ?_); rintro e w1 ⟨rfl, z, rfl⟩; generalize hq3 : inB _ _ _ = b; cases b)
      | (go_at_call 79; (with_reducible refine (CF.out _ _ _).mono ?_); rintro e w1 ⟨rfl, z, rfl⟩; generalize hq4 : fracB _ _ = b; cases b)
      | (go_at_call 78; (with_reducible refine (CR.out _ _ _ _ (by first | exact hr | exact hl | exact hh) (by first | exact (HRD.out _).1 | exact (HRD.out _).2.1 | exact (HRD.out _).2.2)).mono ?_); rintro e w1 ⟨rfl, z, rfl⟩; generalize hq5 : rightB _ = b; cases b)
      | (go_at_call 110; (with_reducible refine (CU.out _ _ _ _ _ _ _ (by first | exact hr | exact hl | exact hh) (by first | exact hr | exact hl | exact hh) (by first | exact (HRD.out _).1 | exact (HRD.out _).2.1 | exact (HRD.out _).2.2) (by first | exact (HRD.out _).1 | exact (HRD.out _).2.1 | exact (HRD.out _).2.2)).mono ?_); rintro e w1 ⟨rfl, z, rfl⟩; generalize hq8 : underB _ _ = b; cases b))
  all_goals (go_ret; exact ⟨by rw [HF.out]; simp [fieldsB, *], HG.out _⟩)
end Go.Proofs.YtngjakahanmepaaGreatDoor
namespace Go.Proofs.YtngjakahanmepaaGreatDoor
open Go.RowKit
set_option linter.unusedVariables false
set_option linter.unusedSimpArgs false
/-- the slope of the segment before point i -/
def segF (l : List Sp) (i : Nat) : Int := slopeF (py l i - py l (i - 1)) (px l i - px l (i - 1))
/-- the steepest of the segments before point k, and s -/
def stF (l : List Sp) (s : Int) : Nat → Int
  | 0 => s
  | k + 1 => if k = 0 then s else max (stF l s k) (segF l k)
structure Cu where
  A : Option Addr
  c : Nat
  l : List Sp
def cuv (x : Cu) : Value := .slice x.A x.l.length x.c
def steepF (cs : List Cu) : Int := cs.foldl (fun s x => stF x.l s x.l.length) 0
theorem stF_step {l : List Sp} {s : Int} {k : Nat} (h : 1 ≤ k) : stF l s (k + 1) = max (stF l s k) (segF l k) := by
  rw [stF, if_neg (by omega)]
theorem stF_one (l : List Sp) (s : Int) : stF l s 1 = s := by simp [stF]
theorem pt_bd {l : List Sp} (h : RightP l) {k : Nat} (hk : k < l.length) (h1 : 1 ≤ k) :
    (0 ≤ py l k - py l (k - 1) ∧ py l k - py l (k - 1) ≤ 1125899906842624) ∧ (0 ≤ px l k - px l (k - 1) ∧ px l k - px l (k - 1) ≤ 1125899906842624) := by
  have h2 := h.ok k hk
  have h3 := h.ok (k - 1) (by omega)
  have := h2.2.2.2.2 (by omega)
  unfold PtOk at h2 h3
  omega
theorem segF_bd {l : List Sp} (h : RightP l) {k : Nat} (hk : k < l.length) (h1 : 1 ≤ k) : 0 ≤ segF l k ∧ segF l k ≤ 1099511627777 := slopeF_bd (pt_bd h hk h1).1.1 (pt_bd h hk h1).2.1
def StBd (s : Int) : Prop := 0 ≤ s ∧ s ≤ 1099511627777
theorem foldl_take {α β : Type} (f : β → α → β) (b : β) {l : List α} {k : Nat} (h : k < l.length) : (l.take (k + 1)).foldl f b = f ((l.take k).foldl f b) l[k] := by
  rw [List.take_succ_eq_append_getElem h, List.foldl_append]
  rfl
def SteO (w V : World) (cs : List Cu) (s3 s9 : Value) (wr : World) : Prop := ∃ k : Nat, ∃ s : Int, k ≤ cs.length ∧ s9 = .int .i64 (k : Int) ∧ s3 = .int .i64 s ∧ Hid (s = (cs.take k).foldl (fun s x => stF x.l s x.l.length) 0 ∧ StBd s) ∧ ∃ y : BelW V, wr = y.w
def SteI (V : World) (l : List Sp) (s0 : Int) (s3 s6 : Value) (wr : World) : Prop := ∃ k : Nat, ∃ s : Int, 1 ≤ k ∧ k ≤ l.length ∧ s6 = .int .i64 (k : Int) ∧ s3 = .int .i64 s ∧ Hid (s = stF l s0 k ∧ StBd s) ∧ ∃ y : BelW V, wr = y.w
set_option maxHeartbeats 32000000 in
set_option maxRecDepth 100000 in
theorem steep_is (CA : Option Addr) (cc : Nat) (cs : List Cu) (hn : cs.length ≤ 9223372036854775807) (hcr : ∀ x ∈ cs, RightP x.l) (w : World) (hc : Rd w CA (cs.map cuv)) (hr : ∀ x ∈ cs, Rd w x.A (spCells x.l)) :
    Calls Tryz.prog 86 #[.slice CA cs.length cc] w fun e w' => e = .returned (.int .i64 (steepF cs)) ∧ Below w.heap.size w w' := by
  obtain ⟨R, hR⟩ : ∃ b, steepF cs = b := ⟨_, rfl⟩
  rw [hR]
  have HF := Lib.hid (fun s (h : s = (cs.take cs.length).foldl (fun s x => stF x.l s x.l.length) 0) => (show R = s by rw [h, List.take_length]; exact hR.symm))
  have HCR := Lib.hid hcr
  clear hR hcr
  go_enter Tryz.func86, Tryz.ntmps86
  refine wp_rebase _ (fun V hV x0 => ?_)
  subst hV
  have HC := Lib.hid hc
  have HR := Lib.hid hr
  clear hc hr
  go_wp2_with fail
  go_loopw [3, 9] (fun s3 s9 wr => SteO V V cs s3 s9 wr) (fun _ i _ => cs.length - (intOf i).toNat)
  case atStart => exact ⟨0, 0, by omega, rfl, rfl, Lib.hid ⟨rfl, by unfold StBd; omega⟩, x0, rfl⟩
  case round =>
    obtain ⟨k, s, hk, rfl, rfl, hs, y, rfl⟩ := hrel
    have HS := Lib.hid hs.out
    clear hs
    by_cases hlt : k < cs.length
    case neg =>
      have i4 : decide ((k : Int) < (cs.length : Int)) = false := decide_eq_false (by omega)
      obtain rfl : k = cs.length := by omega
      have hr := HF.out s HS.out.1
      subst hr
      go_wp2_with fail
      go_ret
      exact ⟨rfl, y.2⟩
    have i4 : decide ((k : Int) < (cs.length : Int)) = true := decide_eq_true (by omega)
    have j1 : (0 : Int) ≤ (k : Int) := by omega
    have j2 : (k : Int) < (cs.length : Int) := by omega
    have hcy := HC.out.bel y
    obtain ⟨ad, u, rfl, -, hu, hcell⟩ := hcy.at (k := k) (by rw [List.length_map]; exact hlt)
    rw [List.getElem?_map, List.getElem?_eq_getElem hlt] at hu
    cases hu
    have HST := Lib.hid (fun s' (h : s' = stF cs[k].l s cs[k].l.length) => (show s' = (cs.take (k + 1)).foldl (fun s x => stF x.l s x.l.length) 0 by rw [foldl_take _ _ hlt, ← HS.out.1]; exact h))
    have HP := Lib.hid (HCR.out _ (List.getElem_mem hlt))
    have HRX := Lib.hid ((HR.out _ (List.getElem_mem hlt)).bel y)
    obtain ⟨X, hX⟩ : ∃ X, cs[k] = X := ⟨_, rfl⟩
    rw [hX] at hcell HST HP HRX
    obtain ⟨A, c, l⟩ := X
    have hcl : y.w.cell? (ad.add k) = some (.slice A l.length c) := hcell
    have hl1 : 1 ≤ l.length := HP.out.pos
    have hl2 : l.length ≤ 32 := HP.out.le
    clear hX hcell hcy
    go_upto_region 5 with fail
    refine wp_rebase _ (fun X hX x1 => ?_)
    subst hX
    go_wp2_with fail
    go_loopw [3, 6] (fun s3 s6 wr => SteI y.w l s s3 s6 wr) (fun _ i _ => l.length - (intOf i).toNat)
    case atStart => exact ⟨1, s, by omega, by omega, rfl, rfl, Lib.hid ⟨(stF_one l s).symm, HS.out.2⟩, x1, rfl⟩
    case round =>
      obtain ⟨m, t, hm1, hm, rfl, rfl, ht, v, rfl⟩ := hrel
      have HT := Lib.hid ht.out
      clear ht
      by_cases hlm : m < l.length
      case neg =>
        have i5 : decide ((m : Int) < (l.length : Int)) = false := decide_eq_false (by omega)
        obtain rfl : m = l.length := by omega
        have HS2 := Lib.hid (And.intro (HST.out t HT.out.1) HT.out.2)
        go_wp2_with fail
        go_roundw
        case rel => exact ⟨k + 1, t, by omega, by go_num, rfl, Lib.hid HS2.out, ⟨v.w, below_next y.2 v.2⟩, rfl⟩
        case measure => simp [intOf]; omega
      have i5 : decide ((m : Int) < (l.length : Int)) = true := decide_eq_true (by omega)
      have j3 : (0 : Int) ≤ (m : Int) := by omega
      have j4 : (m : Int) < (l.length : Int) := by omega
      have hrv := HRX.out.bel v
      obtain ⟨ap, rfl, hab, q1, q2⟩ := hrv.pt hlm
      obtain ⟨ap', e', _, r1, r2⟩ := hrv.pt (k := m - 1) (by omega)
      cases e'
      have hbd := pt_bd HP.out hlm hm1
      have HSG := Lib.hid (And.intro (segF_bd HP.out hlm hm1) (stF_step (l := l) (s := s) hm1))
      have hseg : segF l m = slopeF (py l m - py l (m - 1)) (px l m - px l (m - 1)) := rfl
      have hbx1 := (HP.out.ok m hlm)
      have hbx2 := (HP.out.ok (m - 1) (by omega))
      unfold PtOk at hbx1 hbx2
      obtain ⟨g, hg⟩ : ∃ g, segF l m = g := ⟨_, rfl⟩
      rw [hg] at hseg HSG
      obtain ⟨xa, hxa⟩ : ∃ a, px l m = a := ⟨_, rfl⟩
      obtain ⟨ya, hya⟩ : ∃ a, py l m = a := ⟨_, rfl⟩
      obtain ⟨xb, hxb⟩ : ∃ a, px l (m - 1) = a := ⟨_, rfl⟩
      obtain ⟨yb, hyb⟩ : ∃ a, py l (m - 1) = a := ⟨_, rfl⟩
      rw [hxa, hya, hxb, hyb] at hseg hbd
      rw [hxa, hya] at hbx1
      rw [hxb, hyb] at hbx2
      rw [hxa] at q1
      rw [hya] at q2
      rw [hxb] at r1
      rw [hyb] at r2
      have s1 := fun z : BelW v.w => BelW.cells q1 z
      have s2 := fun z : BelW v.w => BelW.cells q2 z
      have s3 := fun z : BelW v.w => BelW.cells r1 z
      have s4 := fun z : BelW v.w => BelW.cells r2 z
      have e1 : IntKind.i64.wrap (ya - yb) = ya - yb := IntWalk.i64_in _ (by omega)
      have e2 : IntKind.i64.wrap (xa - xb) = xa - xb := IntWalk.i64_in _ (by omega)
      have w1 : IntKind.i64.wrap ((m : Int) - 1) = (m : Int) - 1 := IntWalk.i64_in _ (by omega)
      have w2 : ((m : Int) - 1).toNat = m - 1 := by omega
      have w3 : (0 : Int) ≤ (m : Int) - 1 := by omega
      have w4 : (m : Int) - 1 < (l.length : Int) := by omega
      have CS := Lib.hid (fun (z : BelW v.w) => bel_of (x := z) (slope_is (ya - yb) (xa - xb) hbd.1 hbd.2 z.w))
      rw [← hseg] at CS
      have HUP := Lib.hid (fun z : BelW v.w => (show Below y.w.heap.size y.w z.w from below_next v.2 z.2))
      clear q1 q2 r1 r2 hbx1 hbx2 hxa hya hxb hyb hbd hg hseg hrv
      go_upto_region 8 with fail
      refine wp_rebase _ (fun X hX x2 => ?_)
      subst hX
      refine wp_region_belx (by kernel_rfl) (by kernel_rfl) ?_
      repeat (go_big_quiet_step ((first | (go_at_call 85; with_reducible exact CS.out _))))
      refine wpQuiet_nil ?_
      intro z1
      clear w1 w2 w3 w4
      have HS2 := Lib.hid (show max t g = stF l s (m + 1) ∧ StBd (max t g) from ⟨by rw [HSG.out.2, ← HT.out.1], by have := HT.out.2; have := HSG.out.1; unfold StBd at *; omega⟩)
      go_wp2_with fail
      go_roundw
      case rel => exact ⟨m + 1, max t g, by omega, by omega, by go_num, by first | rfl | (simp; done), Lib.hid HS2.out, ⟨z1.w, HUP.out z1⟩, rfl⟩
      case measure => simp [intOf]; omega
end Go.Proofs.YtngjakahanmepaaGreatDoor
