/- Part 26 of the proof of TopRights: basin.rightLinks. basin.rightOffices. basin.steepest. -/
import Derived.Test.YtngjakahanmepaaGreatDoorM24
import Derived.Test.YtngjakahanmepaaGreatDoorM25
import Derived.Test.YtngjakahanmepaaGreatDoorM17
import Derived.Test.YtngjakahanmepaaGreatDoorM23
namespace Go.Proofs.YtngjakahanmepaaGreatDoor
open Go.RowKit
set_option linter.unusedVariables false
set_option linter.unusedSimpArgs false
noncomputable def linkB (n : Nat) (x : Lk) : Bool := inB x.kind 0 5 && idxB x.fr n && targB n x.fr x.to' && inB x.delay 0 240 && fieldsB x && unusedB x
theorem inB_iff {n lo hi : Int} : inB n lo hi = true ↔ lo ≤ n ∧ n ≤ hi := by unfold inB; rw [Bool.and_eq_true, decide_eq_true_eq, decide_eq_true_eq]
theorem Lks.at {A : Option Addr} {l : List Lk} {w : World} (h : Lks w A l) {k : Nat} (hk : k < l.length) :
    ∃ ad b o, A = some ad ∧ b < w.heap.size ∧ ad.add (k * 18) = ⟨b, o, none⟩ ∧ w.rangeAt b o (lkc l[k]) := Rd.row lkc 18 (fun _ => rfl) (by omega) h.rd hk
set_option maxHeartbeats 32000000 in
set_option maxRecDepth 100000 in
theorem links_is (d0 d1 d2 d5 d6 d7 d8 d9 d10 : Value) (B LA : Option Addr) (n cb lc : Nat) (ls : List Lk) (hn : n ≤ 9223372036854775807) (hln : ls.length ≤ 9223372036854775807)
    (hlr : ∀ x ∈ ls, x.rate.length ≤ 9223372036854775807 ∧ x.lo.length ≤ 9223372036854775807 ∧ x.hi.length ≤ 9223372036854775807) (w : World) (hl : Lks w LA ls) :
    Calls Tryz.prog 38 #[.agg #[d0, d1, d2, .slice B n cb, .slice LA ls.length lc, d5, d6, d7, d8, d9, d10]] w fun e w' => e = .returned (.bool (ls.all (linkB n))) ∧ Below w.heap.size w w' := by
  have HBT := Lib.hid (fun (k : Nat) (hk : k < ls.length) (h : linkB n ls[k] = false) => (show ls.all (linkB n) = false from all_bad hk h))
  obtain ⟨R, hR⟩ : ∃ b, ls.all (linkB n) = b := ⟨_, rfl⟩
  rw [hR] at HBT ⊢
  have HGO := Lib.hid (fun (h1 : ls.all (linkB n) = true) => (show R = true from hR ▸ h1))
  clear hR
  go_enter Tryz.func38, Tryz.ntmps38
  go_upto_region 1 with fail
  refine wp_rebase _ (fun V hV x0 => ?_)
  have HB0 := Lib.hid (show Below w.heap.size w V by rw [hV]; exact bel_alloc (Below.refl _ _) _)
  have HBB := Lib.hid (show V.rangeAt w.heap.size 0 [d0, d1, d2, .slice B n cb, .slice LA ls.length lc, d5, d6, d7, d8, d9, d10] by rw [hV]; exact range_new _ _ [d0, d1, d2, .slice B n cb, .slice LA ls.length lc, d5, d6, d7, d8, d9, d10])
  have HT := Lib.hid (hl.below (Nat.le_refl _) HB0.out)
  have HLR := Lib.hid hlr
  clear hV hl hlr
  have b3 := fun z : BelW V => (show z.w.cell? ⟨w.heap.size, 3, none⟩ = some (.slice B n cb) from BelW.range HBB.out z 3 _ rfl)
  have b4 := fun z : BelW V => (show z.w.cell? ⟨w.heap.size, 4, none⟩ = some (.slice LA ls.length lc) from BelW.range HBB.out z 4 _ rfl)
  have HG := Lib.hid (fun z : BelW V => (show Below w.heap.size w z.w from below_next HB0.out z.2))
  go_wp2_with fail
  go_loopw [8] (fun s8 wr => AllR V (linkB n) ls s8 wr) (fun i _ => ls.length - (intOf i).toNat)
  case atStart => exact ⟨0, by omega, rfl, Lib.hid (all_none _ _), x0, rfl⟩
  case round =>
    obtain ⟨k, hk, rfl, hal, y, rfl⟩ := hrel
    have HAL := Lib.hid hal.out
    clear hal
    by_cases hlt : k < ls.length
    case neg =>
      have i4 : decide ((k : Int) < (ls.length : Int)) = false := decide_eq_false (by omega)
      obtain rfl : k = ls.length := by omega
      have hr := HGO.out (all_end HAL.out)
      subst hr
      clear HAL HGO HBT
      go_wp2_with fail
      go_ret
      exact ⟨rfl, HG.out y⟩
    have i4 : decide ((k : Int) < (ls.length : Int)) = true := decide_eq_true (by omega)
    have j1 : (0 : Int) ≤ (k : Int) := by omega
    have j2 : (k : Int) < (ls.length : Int) := by omega
    obtain ⟨rd, rb0, ro, rfl, hbs, hE, hrt⟩ := (HT.out.below (Nat.le_refl _) y.2).at hlt
    have HNX := Lib.hid (fun h => all_next hlt HAL.out h)
    have HBD := Lib.hid (HBT.out k hlt)
    have HXL := Lib.hid (HLR.out _ (List.getElem_mem hlt))
    have HXR := Lib.hid (And.intro (HT.out.rate _ (List.getElem_mem hlt)) (And.intro (HT.out.lo _ (List.getElem_mem hlt)) (HT.out.hi _ (List.getElem_mem hlt))))
    obtain ⟨X, hX⟩ : ∃ X, ls[k] = X := ⟨_, rfl⟩
    rw [hX] at hrt HNX HBD HXL HXR
    clear hX hbs
    obtain ⟨nm, kind, fr, to', RA, rc, rate, LB, lcc, lo, HA, hc, hi, pos, spd, leak, crest, num, den, prime, brk, bnum, bden, delay⟩ := X
    have HRG := Lib.hid (show y.w.rangeAt rb0 ro [.string nm, .int .i64 kind, .int .i64 fr, .int .i64 to', .slice RA rate.length rc, .slice LB lo.length lcc, .slice HA hi.length hc, .int .i64 pos, .int .i64 spd, .int .i64 leak, .int .i64 crest, .int .i64 num, .int .i64 den, .int .i64 prime, .int .i64 brk, .int .i64 bnum, .int .i64 bden, .int .i64 delay] from hrt)
    clear hrt
    go_upto_region 4 with (first
      | (with_reducible refine wpList_load_g 98 _ (by with_reducible rfl) rb0 ro (by with_unfolding_all rfl) (by with_unfolding_all rfl) _ _ HRG.out Tryz.underlying98 (by with_unfolding_all rfl) (by kernel_rfl) ?_)
      | (with_reducible refine wpList_store_new (z := [.string ⟨#[]⟩, .int .i64 0, .int .i64 0, .int .i64 0, .slice none 0 0, .slice none 0 0, .slice none 0 0, .int .i64 0, .int .i64 0, .int .i64 0, .int .i64 0, .int .i64 0, .int .i64 0, .int .i64 0, .int .i64 0, .int .i64 0, .int .i64 0, .int .i64 0]) (cs := [.string nm, .int .i64 kind, .int .i64 fr, .int .i64 to', .slice RA rate.length rc, .slice LB lo.length lcc, .slice HA hi.length hc, .int .i64 pos, .int .i64 spd, .int .i64 leak, .int .i64 crest, .int .i64 num, .int .i64 den, .int .i64 prime, .int .i64 brk, .int .i64 bnum, .int .i64 bden, .int .i64 delay]) 98 _ _ (by with_reducible rfl) (by with_unfolding_all rfl) y.w.heap.size (by with_reducible rfl) _ (by with_unfolding_all rfl) (by with_unfolding_all rfl) (by with_unfolding_all rfl) (by kernel_rfl) (by with_unfolding_all rfl) ?_))
    refine wp_rebase _ (fun X hX x1 => ?_)
    have hbX : Below y.w.heap.size y.w X := by rw [hX]; exact bel_alloc (Below.refl _ _) _
    have HUP := Lib.hid (fun z : BelW X => (show Below V.heap.size V z.w from below_next (below_next y.2 hbX) z.2))
    have HN := Lib.hid (show X.rangeAt y.w.heap.size 0 [.string nm, .int .i64 kind, .int .i64 fr, .int .i64 to', .slice RA rate.length rc, .slice LB lo.length lcc, .slice HA hi.length hc, .int .i64 pos, .int .i64 spd, .int .i64 leak, .int .i64 crest, .int .i64 num, .int .i64 den, .int .i64 prime, .int .i64 brk, .int .i64 bnum, .int .i64 bden, .int .i64 delay] by rw [hX]; exact range_new y.w 98 [.string nm, .int .i64 kind, .int .i64 fr, .int .i64 to', .slice RA rate.length rc, .slice LB lo.length lcc, .slice HA hi.length hc, .int .i64 pos, .int .i64 spd, .int .i64 leak, .int .i64 crest, .int .i64 num, .int .i64 den, .int .i64 prime, .int .i64 brk, .int .i64 bnum, .int .i64 bden, .int .i64 delay])
    obtain ⟨nb, hnb⟩ : ∃ n, y.w.heap.size = n := ⟨_, rfl⟩
    rw [hnb] at HN ⊢
    have HBX := Lib.hid (show X.rangeAt w.heap.size 0 [d0, d1, d2, .slice B n cb, .slice (some rd) ls.length lc, d5, d6, d7, d8, d9, d10] from range_bel HBB.out ⟨X, HUP.out ⟨X, Below.refl _ _⟩⟩)
    have b3 := fun z : BelW X => (show z.w.cell? ⟨w.heap.size, 3, none⟩ = some (.slice B n cb) from BelW.range HBX.out z 3 _ rfl)
    have HRX := Lib.hid (fun z : BelW X => (show Rd z.w RA (spCells rate) ∧ Rd z.w LB (spCells lo) ∧ Rd z.w HA (spCells hi) from ⟨HXR.out.1.below (Nat.le_refl _) (HUP.out z), HXR.out.2.1.below (Nat.le_refl _) (HUP.out z), HXR.out.2.2.below (Nat.le_refl _) (HUP.out z)⟩))
    clear hX hnb hbX HRG hE
    have n1 := fun z : BelW X => (show z.w.cell? ⟨nb, 1, none⟩ = some (.int .i64 kind) from BelW.range HN.out z 1 _ rfl)
    have n2 := fun z : BelW X => (show z.w.cell? ⟨nb, 2, none⟩ = some (.int .i64 fr) from BelW.range HN.out z 2 _ rfl)
    have n3 := fun z : BelW X => (show z.w.cell? ⟨nb, 3, none⟩ = some (.int .i64 to') from BelW.range HN.out z 3 _ rfl)
    have n17 := fun z : BelW X => (show z.w.cell? ⟨nb, 17, none⟩ = some (.int .i64 delay) from BelW.range HN.out z 17 _ rfl)
    have CI := Lib.hid (fun (z : BelW X) (n lo hi : Int) => bel_of (x := z) (in_is n lo hi z.w))
    have CX := Lib.hid (fun (z : BelW X) (i : Int) => bel_of (x := z) (bindex_is i n hn z.w))
    have CT := Lib.hid (fun (z : BelW X) (f t : Int) => bel_of (x := z) (target_is d0 d1 d2 (.slice (some rd) ls.length lc) d5 d6 d7 d8 d9 d10 B n cb hn f t z.w))
    have CF := Lib.hid (fun (z : BelW X) => bel_of (x := z) (fields_is nm kind fr to' RA rc rate LB lcc lo HA hc hi pos spd leak crest num den prime brk bnum bden delay HXL.out.1 HXL.out.2.1 HXL.out.2.2 z.w (HRX.out z).1 (HRX.out z).2.1 (HRX.out z).2.2))
    have CU := Lib.hid (fun (z : BelW X) (hk : 0 ≤ kind ∧ kind ≤ 5) => bel_of (x := z) (unused_is nm kind fr to' RA rc rate LB lcc lo HA hc hi pos spd leak crest num den prime brk bnum bden delay hk z.w))
    go_wp2_with (first
      | (with_reducible refine wpList_load_g 31 _ (by with_reducible rfl) _ _ (by with_unfolding_all rfl) (by with_unfolding_all rfl) _ _ (BelW.range HBX.out _) Tryz.underlying31 (by with_unfolding_all rfl) (by kernel_rfl) ?_)
      | (with_reducible refine wpList_load_g 98 _ (by with_reducible rfl) _ _ (by with_unfolding_all rfl) (by with_unfolding_all rfl) _ _ (BelW.range HN.out _) Tryz.underlying98 (by with_unfolding_all rfl) (by kernel_rfl) ?_)
      | (go_at_call 81; (with_reducible refine (CX.out _ _).mono ?_); rintro e w1 ⟨rfl, z, rfl⟩; generalize hq1 : idxB _ _ = b; cases b)
      | (go_at_call 80; (with_reducible refine (CT.out _ _ _).mono ?_); rintro e w1 ⟨rfl, z, rfl⟩; generalize hq2 : targB _ _ _ = b; cases b)
      | (go_at_call 82; (with_reducible refine (CF.out _).mono ?_); rintro e w1 ⟨rfl, z, rfl⟩; generalize hq4 : fieldsB _ = b; cases b)
      | (go_at_call 83; (with_reducible refine (CU.out _ (inB_iff.1 (by assumption))).mono ?_); rintro e w1 ⟨rfl, z, rfl⟩; generalize hq5 : unusedB _ = b; cases b)
      | (go_at_call 74; (with_reducible refine (CI.out _ kind _ _).mono ?_); rintro e w1 ⟨rfl, z, rfl⟩; generalize hq3 : inB _ _ _ = b; cases b)
      | (go_at_call 74; (with_reducible refine (CI.out _ delay _ _).mono ?_); rintro e w1 ⟨rfl, z, rfl⟩; generalize hq6 : inB _ _ _ = b; cases b))
    all_goals first
      | (have hr := HBD.out (by simp [linkB, *]); subst hr; go_ret; exact ⟨rfl, HG.out ⟨z.w, HUP.out z⟩⟩)
      | (have HN2 := Lib.hid (HNX.out (by simp [linkB, *])); go_roundw <;> first | exact ⟨k + 1, by omega, by go_num, Lib.hid HN2.out, ⟨z.w, HUP.out z⟩, rfl⟩ | (simp [intOf]; omega))
end Go.Proofs.YtngjakahanmepaaGreatDoor
namespace Go.Proofs.YtngjakahanmepaaGreatDoor
open Go.RowKit
set_option linter.unusedVariables false
set_option linter.unusedSimpArgs false
def offP (ps : List Pl) (p : Pl) : Bool := nextB ps p.office p.down
def offL (ps : List Pl) (l : Lk) : Bool := nextB ps (pl ps l.fr.toNat).office l.to' && !(l.kind == 4 && (pl ps l.to'.toNat).office != (pl ps l.fr.toNat).office)
structure PlOk (n : Nat) (p : Pl) : Prop where
  off : 0 ≤ p.office ∧ p.office ≤ 2
  down : p.down = -1 ∨ (0 ≤ p.down ∧ p.down < (n : Int))
structure LkOk (n : Nat) (l : Lk) : Prop where
  fr : 0 ≤ l.fr ∧ l.fr < (n : Int)
  to' : l.to' = -1 ∨ (0 ≤ l.to' ∧ l.to' < (n : Int))
  seep : l.kind = 4 → l.to' ≠ -1
set_option maxHeartbeats 32000000 in
set_option maxRecDepth 100000 in
theorem offices_is (d0 d1 d2 d5 d6 d7 d8 d9 d10 : Value) (B LA : Option Addr) (cb lc : Nat) (ps : List Pl) (ls : List Lk) (hn : ps.length ≤ 9223372036854775807) (hln : ls.length ≤ 9223372036854775807)
    (hpo : ∀ p ∈ ps, PlOk ps.length p) (hlo : ∀ l ∈ ls, LkOk ps.length l) (w : World) (hp : Pls w B ps) (hl : Lks w LA ls) :
    Calls Tryz.prog 39 #[.agg #[d0, d1, d2, .slice B ps.length cb, .slice LA ls.length lc, d5, d6, d7, d8, d9, d10]] w fun e w' => e = .returned (.bool (ps.all (offP ps) && ls.all (offL ps))) ∧ Below w.heap.size w w' := by
  have HBP := Lib.hid (fun (k : Nat) (hk : k < ps.length) (h : offP ps ps[k] = false) => (show (ps.all (offP ps) && ls.all (offL ps)) = false by rw [all_bad hk h]; rfl))
  have HBL := Lib.hid (fun (k : Nat) (hk : k < ls.length) (h : offL ps ls[k] = false) => (show (ps.all (offP ps) && ls.all (offL ps)) = false by rw [all_bad hk h, Bool.and_false]))
  have HGO := Lib.hid (fun (h1 : ps.all (offP ps) = true) (h2 : ls.all (offL ps) = true) => (show (ps.all (offP ps) && ls.all (offL ps)) = true by rw [h1, h2]; rfl))
  obtain ⟨R, hR⟩ : ∃ b, (ps.all (offP ps) && ls.all (offL ps)) = b := ⟨_, rfl⟩
  rw [hR] at HBP HBL HGO ⊢
  clear hR
  go_enter Tryz.func39, Tryz.ntmps39
  go_upto_region 1 with fail
  refine wp_rebase _ (fun V hV x0 => ?_)
  have HB0 := Lib.hid (show Below w.heap.size w V by rw [hV]; exact bel_alloc (Below.refl _ _) _)
  have HBB := Lib.hid (show V.rangeAt w.heap.size 0 [d0, d1, d2, .slice B ps.length cb, .slice LA ls.length lc, d5, d6, d7, d8, d9, d10] by rw [hV]; exact range_new _ _ [d0, d1, d2, .slice B ps.length cb, .slice LA ls.length lc, d5, d6, d7, d8, d9, d10])
  have HP := Lib.hid (hp.below (Nat.le_refl _) HB0.out)
  have HT := Lib.hid (hl.below (Nat.le_refl _) HB0.out)
  have HPO := Lib.hid hpo
  have HLO := Lib.hid hlo
  clear hV hl hp hpo hlo
  have b3 := fun z : BelW V => (show z.w.cell? ⟨w.heap.size, 3, none⟩ = some (.slice B ps.length cb) from BelW.range HBB.out z 3 _ rfl)
  have b4 := fun z : BelW V => (show z.w.cell? ⟨w.heap.size, 4, none⟩ = some (.slice LA ls.length lc) from BelW.range HBB.out z 4 _ rfl)
  have HG := Lib.hid (fun z : BelW V => (show Below w.heap.size w z.w from below_next HB0.out z.2))
  go_wp2_with fail
  go_loopw [11] (fun s11 wr => AllR V (offP ps) ps s11 wr) (fun i _ => ps.length - (intOf i).toNat)
  case atStart => exact ⟨0, by omega, rfl, Lib.hid (all_none _ _), x0, rfl⟩
  case round =>
    obtain ⟨k, hk, rfl, hal, y, rfl⟩ := hrel
    have HAL := Lib.hid hal.out
    clear hal
    by_cases hlt : k < ps.length
    case neg =>
      have i4 : decide ((k : Int) < (ps.length : Int)) = false := decide_eq_false (by omega)
      obtain rfl : k = ps.length := by omega
      have HT1 := Lib.hid (all_end HAL.out)
      clear HAL
      go_wp2_with fail
      go_loopw [26] (fun s26 wr => AllR V (offL ps) ls s26 wr) (fun i _ => ls.length - (intOf i).toNat)
      case atStart => exact ⟨0, by omega, rfl, Lib.hid (all_none _ _), y, rfl⟩
      case round =>
        obtain ⟨k, hk, rfl, hal, y, rfl⟩ := hrel
        have HAL := Lib.hid hal.out
        clear hal
        by_cases hlt : k < ls.length
        case neg =>
          have i5 : decide ((k : Int) < (ls.length : Int)) = false := decide_eq_false (by omega)
          obtain rfl : k = ls.length := by omega
          have hr := HGO.out HT1.out (all_end HAL.out)
          subst hr
          clear HAL HGO HBL HBP
          go_wp2_with fail
          go_ret
          exact ⟨rfl, HG.out y⟩
        have i5 : decide ((k : Int) < (ls.length : Int)) = true := decide_eq_true (by omega)
        have j1 : (0 : Int) ≤ (k : Int) := by omega
        have j2 : (k : Int) < (ls.length : Int) := by omega
        obtain ⟨rd, rb0, ro, rfl, hbs, hE, hrt⟩ := (HT.out.below (Nat.le_refl _) y.2).at hlt
        have HNX := Lib.hid (fun h => all_next hlt HAL.out h)
        have HBD := Lib.hid (HBL.out k hlt)
        have hok := HLO.out _ (List.getElem_mem hlt)
        obtain ⟨X, hX⟩ : ∃ X, ls[k] = X := ⟨_, rfl⟩
        rw [hX] at hrt HNX HBD hok
        clear hX hbs
        obtain ⟨nm, kind, fr, to', RA, rc, rate, LB, lcc, lo, HA, hc, hi, pos, spd, leak, crest, num, den, prime, brk, bnum, bden, delay⟩ := X
        obtain ⟨hfr, hto, hsp⟩ := hok
        simp only at hfr hto hsp
        have HRG := Lib.hid (show y.w.rangeAt rb0 ro [.string nm, .int .i64 kind, .int .i64 fr, .int .i64 to', .slice RA rate.length rc, .slice LB lo.length lcc, .slice HA hi.length hc, .int .i64 pos, .int .i64 spd, .int .i64 leak, .int .i64 crest, .int .i64 num, .int .i64 den, .int .i64 prime, .int .i64 brk, .int .i64 bnum, .int .i64 bden, .int .i64 delay] from hrt)
        clear hrt
        go_upto_region 10 with (first
          | (with_reducible refine wpList_load_g 98 _ (by with_reducible rfl) rb0 ro (by with_unfolding_all rfl) (by with_unfolding_all rfl) _ _ HRG.out Tryz.underlying98 (by with_unfolding_all rfl) (by kernel_rfl) ?_)
          | (with_reducible refine wpList_store_new (z := [.string ⟨#[]⟩, .int .i64 0, .int .i64 0, .int .i64 0, .slice none 0 0, .slice none 0 0, .slice none 0 0, .int .i64 0, .int .i64 0, .int .i64 0, .int .i64 0, .int .i64 0, .int .i64 0, .int .i64 0, .int .i64 0, .int .i64 0, .int .i64 0, .int .i64 0]) (cs := [.string nm, .int .i64 kind, .int .i64 fr, .int .i64 to', .slice RA rate.length rc, .slice LB lo.length lcc, .slice HA hi.length hc, .int .i64 pos, .int .i64 spd, .int .i64 leak, .int .i64 crest, .int .i64 num, .int .i64 den, .int .i64 prime, .int .i64 brk, .int .i64 bnum, .int .i64 bden, .int .i64 delay]) 98 _ _ (by with_reducible rfl) (by with_unfolding_all rfl) y.w.heap.size (by with_reducible rfl) _ (by with_unfolding_all rfl) (by with_unfolding_all rfl) (by with_unfolding_all rfl) (by kernel_rfl) (by with_unfolding_all rfl) ?_))
        refine wp_rebase _ (fun X hX x1 => ?_)
        have hbX : Below y.w.heap.size y.w X := by rw [hX]; exact bel_alloc (Below.refl _ _) _
        have HUP := Lib.hid (fun z : BelW X => (show Below V.heap.size V z.w from below_next (below_next y.2 hbX) z.2))
        have HN := Lib.hid (show X.rangeAt y.w.heap.size 0 [.string nm, .int .i64 kind, .int .i64 fr, .int .i64 to', .slice RA rate.length rc, .slice LB lo.length lcc, .slice HA hi.length hc, .int .i64 pos, .int .i64 spd, .int .i64 leak, .int .i64 crest, .int .i64 num, .int .i64 den, .int .i64 prime, .int .i64 brk, .int .i64 bnum, .int .i64 bden, .int .i64 delay] by rw [hX]; exact range_new y.w 98 [.string nm, .int .i64 kind, .int .i64 fr, .int .i64 to', .slice RA rate.length rc, .slice LB lo.length lcc, .slice HA hi.length hc, .int .i64 pos, .int .i64 spd, .int .i64 leak, .int .i64 crest, .int .i64 num, .int .i64 den, .int .i64 prime, .int .i64 brk, .int .i64 bnum, .int .i64 bden, .int .i64 delay])
        obtain ⟨nb, hnb⟩ : ∃ n, y.w.heap.size = n := ⟨_, rfl⟩
        rw [hnb] at HN ⊢
        have HBX := Lib.hid (range_bel HBB.out ⟨X, HUP.out ⟨X, Below.refl _ _⟩⟩)
        have HPX := Lib.hid (fun z : BelW X => HP.out.below (Nat.le_refl _) (HUP.out z))
        have b3 := fun z : BelW X => (show z.w.cell? ⟨w.heap.size, 3, none⟩ = some (.slice B ps.length cb) from BelW.range HBX.out z 3 _ rfl)
        clear hX hnb hbX HRG hE
        have n1 := fun z : BelW X => (show z.w.cell? ⟨nb, 1, none⟩ = some (.int .i64 kind) from BelW.range HN.out z 1 _ rfl)
        have n2 := fun z : BelW X => (show z.w.cell? ⟨nb, 2, none⟩ = some (.int .i64 fr) from BelW.range HN.out z 2 _ rfl)
        have n3 := fun z : BelW X => (show z.w.cell? ⟨nb, 3, none⟩ = some (.int .i64 to') from BelW.range HN.out z 3 _ rfl)
        obtain ⟨f, rfl⟩ : ∃ f : Nat, fr = (f : Int) := ⟨fr.toNat, by omega⟩
        have hf : f < ps.length := by omega
        have q1 : (0 : Int) ≤ (f : Int) := by omega
        have q2 : (f : Int) < (ps.length : Int) := by omega
        obtain ⟨ad, pb, po, rfl, -, hEf, hrf⟩ := (HPX.out ⟨X, Below.refl _ _⟩).at hf
        have hfo := HPO.out _ (List.getElem_mem hf)
        rw [← pl_at hf] at hfo
        have HFT := Lib.hid (show (f : Int).toNat = f from Int.toNat_natCast f)
        obtain ⟨F, hF⟩ : ∃ F, pl ps f = F := ⟨_, rfl⟩
        rw [hF] at hrf hfo
        have HFF := Lib.hid hF
        have g2 := fun z : BelW X => (show z.w.cell? ⟨pb, po + 2, none⟩ = some (.int .i64 F.office) from BelW.cells (hrf 2 _ rfl) z)
        have CN := Lib.hid (fun (z : BelW X) => bel_of (x := z) (next_is d0 d1 d2 (.slice (some rd) ls.length lc) d5 d6 d7 d8 d9 d10 (some ad) cb ps F.office to' hfo.off hto z.w (HPX.out z)))
        have HOF := Lib.hid hfo.off
        clear hrf hfo hF
        generalize hO : F.office = O at *
        by_cases hk4 : kind = 4
        case neg =>
          have t4 : (kind == 4) = false := beq_eq_false_iff_ne.2 hk4
          clear hsp
          go_wp2_with (first
            | (with_reducible refine wpList_load_g 31 _ (by with_reducible rfl) _ _ (by with_unfolding_all rfl) (by with_unfolding_all rfl) _ _ (BelW.range HBX.out _) Tryz.underlying31 (by with_unfolding_all rfl) (by kernel_rfl) ?_)
            | (go_at_call 84; (with_reducible refine (CN.out _).mono ?_); rintro e w1 ⟨rfl, z, rfl⟩; generalize hq1 : nextB _ _ _ = b; cases b))
          all_goals first
            | (have hr := HBD.out (by simp [offL, HFF.out, hO, *]); subst hr; go_ret; exact ⟨rfl, HG.out ⟨z.w, HUP.out z⟩⟩)
            | (have HN2 := Lib.hid (HNX.out (by simp [offL, HFF.out, hO, *])); go_roundw <;> first | exact ⟨k + 1, by omega, by go_num, Lib.hid HN2.out, ⟨z.w, HUP.out z⟩, rfl⟩ | (simp [intOf]; omega))
        have t4 : (kind == 4) = true := beq_iff_eq.2 hk4
        have hto2 := hto.resolve_left (hsp hk4)
        obtain ⟨g, rfl⟩ : ∃ g : Nat, to' = (g : Int) := ⟨to'.toNat, by omega⟩
        have hg : g < ps.length := by omega
        have q3 : (0 : Int) ≤ (g : Int) := by omega
        have q4 : (g : Int) < (ps.length : Int) := by omega
        obtain ⟨ad2, pb2, po2, hj, -, hEg, hrg⟩ := (HPX.out ⟨X, Below.refl _ _⟩).at hg
        cases hj
        have HGT := Lib.hid (show (g : Int).toNat = g from Int.toNat_natCast g)
        obtain ⟨T, hT⟩ : ∃ T, pl ps g = T := ⟨_, rfl⟩
        rw [hT] at hrg
        have HGG := Lib.hid hT
        have g3 := fun z : BelW X => (show z.w.cell? ⟨pb2, po2 + 2, none⟩ = some (.int .i64 T.office) from BelW.cells (hrg 2 _ rfl) z)
        clear hrg hT hsp hto hto2
        generalize hU : T.office = U at *
        by_cases hd : U = O
        all_goals (try (have t5 : (U != O) = true := bne_iff_ne.2 hd)); (try (have t5 : (U != O) = false := bne_eq_false_iff_eq.2 hd))
        all_goals go_wp2_with (first
            | (with_reducible refine wpList_load_g 31 _ (by with_reducible rfl) _ _ (by with_unfolding_all rfl) (by with_unfolding_all rfl) _ _ (BelW.range HBX.out _) Tryz.underlying31 (by with_unfolding_all rfl) (by kernel_rfl) ?_)
            | (go_at_call 84; (with_reducible refine (CN.out _).mono ?_); rintro e w1 ⟨rfl, z, rfl⟩; generalize hq1 : nextB _ _ _ = b; cases b))
        all_goals first
            | (have hr := HBD.out (by simp [offL, HFF.out, hO, HGG.out, hU, *]); subst hr; go_ret; exact ⟨rfl, HG.out ⟨z.w, HUP.out z⟩⟩)
            | (have HN2 := Lib.hid (HNX.out (by simp [offL, HFF.out, hO, HGG.out, hU, *])); go_roundw <;> first | exact ⟨k + 1, by omega, by go_num, Lib.hid HN2.out, ⟨z.w, HUP.out z⟩, rfl⟩ | (simp [intOf]; omega))
    have i4 : decide ((k : Int) < (ps.length : Int)) = true := decide_eq_true (by omega)
    have j1 : (0 : Int) ≤ (k : Int) := by omega
    have j2 : (k : Int) < (ps.length : Int) := by omega
    obtain ⟨rd, rb0, ro, rfl, hbs, hE, hrt⟩ := (HP.out.below (Nat.le_refl _) y.2).at hlt
    have HNX := Lib.hid (fun h => all_next hlt HAL.out h)
    have HBD := Lib.hid (HBP.out k hlt)
    have hok := HPO.out _ (List.getElem_mem hlt)
    rw [pl_at hlt] at hrt
    obtain ⟨X, hX⟩ : ∃ X, ps[k] = X := ⟨_, rfl⟩
    rw [hX] at hrt HNX HBD hok
    clear hX hbs
    obtain ⟨nm, kind, office, cap, LVA, lvc, level, SA, sc, start, num, den, down, delay, floor, RA, rc, rain⟩ := X
    obtain ⟨hof, hdn⟩ := hok
    simp only at hof hdn
    have HRG := Lib.hid (show y.w.rangeAt rb0 ro [.string nm, .int .i64 kind, .int .i64 office, .int .i64 cap, .slice LVA level.length lvc, .slice SA start.length sc, .int .i64 num, .int .i64 den, .int .i64 down, .int .i64 delay, .int .i64 floor, .slice RA rain.length rc] from hrt)
    clear hrt
    go_upto_region 4 with (first
      | (with_reducible refine wpList_load_g 90 _ (by with_reducible rfl) rb0 ro (by with_unfolding_all rfl) (by with_unfolding_all rfl) _ _ HRG.out Tryz.underlying90 (by with_unfolding_all rfl) (by kernel_rfl) ?_)
      | (with_reducible refine wpList_store_new (z := [.string ⟨#[]⟩, .int .i64 0, .int .i64 0, .int .i64 0, .slice none 0 0, .slice none 0 0, .int .i64 0, .int .i64 0, .int .i64 0, .int .i64 0, .int .i64 0, .slice none 0 0]) (cs := [.string nm, .int .i64 kind, .int .i64 office, .int .i64 cap, .slice LVA level.length lvc, .slice SA start.length sc, .int .i64 num, .int .i64 den, .int .i64 down, .int .i64 delay, .int .i64 floor, .slice RA rain.length rc]) 90 _ _ (by with_reducible rfl) (by with_unfolding_all rfl) y.w.heap.size (by with_reducible rfl) _ (by with_unfolding_all rfl) (by with_unfolding_all rfl) (by with_unfolding_all rfl) (by kernel_rfl) (by with_unfolding_all rfl) ?_))
    refine wp_rebase _ (fun X hX x1 => ?_)
    have hbX : Below y.w.heap.size y.w X := by rw [hX]; exact bel_alloc (Below.refl _ _) _
    have HUP := Lib.hid (fun z : BelW X => (show Below V.heap.size V z.w from below_next (below_next y.2 hbX) z.2))
    have HN := Lib.hid (show X.rangeAt y.w.heap.size 0 [.string nm, .int .i64 kind, .int .i64 office, .int .i64 cap, .slice LVA level.length lvc, .slice SA start.length sc, .int .i64 num, .int .i64 den, .int .i64 down, .int .i64 delay, .int .i64 floor, .slice RA rain.length rc] by rw [hX]; exact range_new y.w 90 [.string nm, .int .i64 kind, .int .i64 office, .int .i64 cap, .slice LVA level.length lvc, .slice SA start.length sc, .int .i64 num, .int .i64 den, .int .i64 down, .int .i64 delay, .int .i64 floor, .slice RA rain.length rc])
    obtain ⟨nb, hnb⟩ : ∃ n, y.w.heap.size = n := ⟨_, rfl⟩
    rw [hnb] at HN ⊢
    have HBX := Lib.hid (range_bel HBB.out ⟨X, HUP.out ⟨X, Below.refl _ _⟩⟩)
    have HPX := Lib.hid (fun z : BelW X => HP.out.below (Nat.le_refl _) (HUP.out z))
    clear hX hnb hbX HRG hE
    have n2 := fun z : BelW X => (show z.w.cell? ⟨nb, 2, none⟩ = some (.int .i64 office) from BelW.range HN.out z 2 _ rfl)
    have n8 := fun z : BelW X => (show z.w.cell? ⟨nb, 8, none⟩ = some (.int .i64 down) from BelW.range HN.out z 8 _ rfl)
    have CN := Lib.hid (fun (z : BelW X) => bel_of (x := z) (next_is d0 d1 d2 (.slice LA ls.length lc) d5 d6 d7 d8 d9 d10 (some rd) cb ps office down hof hdn z.w (HPX.out z)))
    clear hof hdn
    go_wp2_with (first
      | (with_reducible refine wpList_load_g 31 _ (by with_reducible rfl) _ _ (by with_unfolding_all rfl) (by with_unfolding_all rfl) _ _ (BelW.range HBX.out _) Tryz.underlying31 (by with_unfolding_all rfl) (by kernel_rfl) ?_)
      | (go_at_call 84; (with_reducible refine (CN.out _).mono ?_); rintro e w1 ⟨rfl, z, rfl⟩; generalize hq1 : nextB _ _ _ = b; cases b))
    all_goals first
      | (have hr := HBD.out (by simp [offP, *]); subst hr; go_ret; exact ⟨rfl, HG.out ⟨z.w, HUP.out z⟩⟩)
      | (have HN2 := Lib.hid (HNX.out (by simp [offP, *])); go_roundw <;> first | exact ⟨k + 1, by omega, by go_num, Lib.hid HN2.out, ⟨z.w, HUP.out z⟩, rfl⟩ | (simp [intOf]; omega))
end Go.Proofs.YtngjakahanmepaaGreatDoor
namespace Go.Proofs.YtngjakahanmepaaGreatDoor
open Go.RowKit
set_option linter.unusedVariables false
set_option linter.unusedSimpArgs false
/-- the slope of the segment before point i -/
def segF (l : List Sp) (i : Nat) : Int := slopeF (py l i - py l (i - 1)) (px l i - px l (i - 1))
/-- the steepest of the segments before point k, and s -/
def stF (l : List Sp) (s : Int) : Nat → Int
  | 0 => s
  | k + 1 => if k = 0 then s else max (stF l s k) (segF l k)
structure Cu where
  A : Option Addr
  c : Nat
  l : List Sp
def cuv (x : Cu) : Value := .slice x.A x.l.length x.c
def steepF (cs : List Cu) : Int := cs.foldl (fun s x => stF x.l s x.l.length) 0
theorem stF_step {l : List Sp} {s : Int} {k : Nat} (h : 1 ≤ k) : stF l s (k + 1) = max (stF l s k) (segF l k) := by
  rw [stF, if_neg (by omega)]
theorem stF_one (l : List Sp) (s : Int) : stF l s 1 = s := by simp [stF]
theorem pt_bd {l : List Sp} (h : RightP l) {k : Nat} (hk : k < l.length) (h1 : 1 ≤ k) :
    (0 ≤ py l k - py l (k - 1) ∧ py l k - py l (k - 1) ≤ 1125899906842624) ∧ (0 ≤ px l k - px l (k - 1) ∧ px l k - px l (k - 1) ≤ 1125899906842624) := by
  have h2 := h.ok k hk
  have h3 := h.ok (k - 1) (by omega)
  have := h2.2.2.2.2 (by omega)
  unfold PtOk at h2 h3
  omega
theorem segF_bd {l : List Sp} (h : RightP l) {k : Nat} (hk : k < l.length) (h1 : 1 ≤ k) : 0 ≤ segF l k ∧ segF l k ≤ 1099511627777 := slopeF_bd (pt_bd h hk h1).1.1 (pt_bd h hk h1).2.1
def StBd (s : Int) : Prop := 0 ≤ s ∧ s ≤ 1099511627777
theorem foldl_take {α β : Type} (f : β → α → β) (b : β) {l : List α} {k : Nat} (h : k < l.length) : (l.take (k + 1)).foldl f b = f ((l.take k).foldl f b) l[k] := by
  rw [List.take_succ_eq_append_getElem h, List.foldl_append]
  rfl
def SteO (w V : World) (cs : List Cu) (s3 s9 : Value) (wr : World) : Prop := ∃ k : Nat, ∃ s : Int, k ≤ cs.length ∧ s9 = .int .i64 (k : Int) ∧ s3 = .int .i64 s ∧ Hid (s = (cs.take k).foldl (fun s x => stF x.l s x.l.length) 0 ∧ StBd s) ∧ ∃ y : BelW V, wr = y.w
def SteI (V : World) (l : List Sp) (s0 : Int) (s3 s6 : Value) (wr : World) : Prop := ∃ k : Nat, ∃ s : Int, 1 ≤ k ∧ k ≤ l.length ∧ s6 = .int .i64 (k : Int) ∧ s3 = .int .i64 s ∧ Hid (s = stF l s0 k ∧ StBd s) ∧ ∃ y : BelW V, wr = y.w
set_option maxHeartbeats 32000000 in
set_option maxRecDepth 100000 in
theorem steep_is (CA : Option Addr) (cc : Nat) (cs : List Cu) (hn : cs.length ≤ 9223372036854775807) (hcr : ∀ x ∈ cs, RightP x.l) (w : World) (hc : Rd w CA (cs.map cuv)) (hr : ∀ x ∈ cs, Rd w x.A (spCells x.l)) :
    Calls Tryz.prog 86 #[.slice CA cs.length cc] w fun e w' => e = .returned (.int .i64 (steepF cs)) ∧ Below w.heap.size w w' := by
  obtain ⟨R, hR⟩ : ∃ b, steepF cs = b := ⟨_, rfl⟩
  rw [hR]
  have HF := Lib.hid (fun s (h : s = (cs.take cs.length).foldl (fun s x => stF x.l s x.l.length) 0) => (show R = s by rw [h, List.take_length]; exact hR.symm))
  have HCR := Lib.hid hcr
  clear hR hcr
  go_enter Tryz.func86, Tryz.ntmps86
  refine wp_rebase _ (fun V hV x0 => ?_)
  subst hV
  have HC := Lib.hid hc
  have HR := Lib.hid hr
  clear hc hr
  go_wp2_with fail
  go_loopw [3, 9] (fun s3 s9 wr => SteO V V cs s3 s9 wr) (fun _ i _ => cs.length - (intOf i).toNat)
  case atStart => exact ⟨0, 0, by omega, rfl, rfl, Lib.hid ⟨rfl, by unfold StBd; omega⟩, x0, rfl⟩
  case round =>
    obtain ⟨k, s, hk, rfl, rfl, hs, y, rfl⟩ := hrel
    have HS := Lib.hid hs.out
    clear hs
    by_cases hlt : k < cs.length
    case neg =>
      have i4 : decide ((k : Int) < (cs.length : Int)) = false := decide_eq_false (by omega)
      obtain rfl : k = cs.length := by omega
      have hr := HF.out s HS.out.1
      subst hr
      go_wp2_with fail
      go_ret
      exact ⟨rfl, y.2⟩
    have i4 : decide ((k : Int) < (cs.length : Int)) = true := decide_eq_true (by omega)
    have j1 : (0 : Int) ≤ (k : Int) := by omega
    have j2 : (k : Int) < (cs.length : Int) := by omega
    have hcy := HC.out.bel y
    obtain ⟨ad, u, rfl, -, hu, hcell⟩ := hcy.at (k := k) (by rw [List.length_map]; exact hlt)
    rw [List.getElem?_map, List.getElem?_eq_getElem hlt] at hu
    cases hu
    have HST := Lib.hid (fun s' (h : s' = stF cs[k].l s cs[k].l.length) => (show s' = (cs.take (k + 1)).foldl (fun s x => stF x.l s x.l.length) 0 by rw [foldl_take _ _ hlt, ← HS.out.1]; exact h))
    have HP := Lib.hid (HCR.out _ (List.getElem_mem hlt))
    have HRX := Lib.hid ((HR.out _ (List.getElem_mem hlt)).bel y)
    obtain ⟨X, hX⟩ : ∃ X, cs[k] = X := ⟨_, rfl⟩
    rw [hX] at hcell HST HP HRX
    obtain ⟨A, c, l⟩ := X
    have hcl : y.w.cell? (ad.add k) = some (.slice A l.length c) := hcell
    have hl1 : 1 ≤ l.length := HP.out.pos
    have hl2 : l.length ≤ 32 := HP.out.le
    clear hX hcell hcy
    go_upto_region 5 with fail
    refine wp_rebase _ (fun X hX x1 => ?_)
    subst hX
    go_wp2_with fail
    go_loopw [3, 6] (fun s3 s6 wr => SteI y.w l s s3 s6 wr) (fun _ i _ => l.length - (intOf i).toNat)
    case atStart => exact ⟨1, s, by omega, by omega, rfl, rfl, Lib.hid ⟨(stF_one l s).symm, HS.out.2⟩, x1, rfl⟩
    case round =>
      obtain ⟨m, t, hm1, hm, rfl, rfl, ht, v, rfl⟩ := hrel
      have HT := Lib.hid ht.out
      clear ht
      by_cases hlm : m < l.length
      case neg =>
        have i5 : decide ((m : Int) < (l.length : Int)) = false := decide_eq_false (by omega)
        obtain rfl : m = l.length := by omega
        have HS2 := Lib.hid (And.intro (HST.out t HT.out.1) HT.out.2)
        go_wp2_with fail
        go_roundw
        case rel => exact ⟨k + 1, t, by omega, by go_num, rfl, Lib.hid HS2.out, ⟨v.w, below_next y.2 v.2⟩, rfl⟩
        case measure => simp [intOf]; omega
      have i5 : decide ((m : Int) < (l.length : Int)) = true := decide_eq_true (by omega)
      have j3 : (0 : Int) ≤ (m : Int) := by omega
      have j4 : (m : Int) < (l.length : Int) := by omega
      have hrv := HRX.out.bel v
      obtain ⟨ap, rfl, hab, q1, q2⟩ := hrv.pt hlm
      obtain ⟨ap', e', _, r1, r2⟩ := hrv.pt (k := m - 1) (by omega)
      cases e'
      have hbd := pt_bd HP.out hlm hm1
      have HSG := Lib.hid (And.intro (segF_bd HP.out hlm hm1) (stF_step (l := l) (s := s) hm1))
      have hseg : segF l m = slopeF (py l m - py l (m - 1)) (px l m - px l (m - 1)) := rfl
      have hbx1 := (HP.out.ok m hlm)
      have hbx2 := (HP.out.ok (m - 1) (by omega))
      unfold PtOk at hbx1 hbx2
      obtain ⟨g, hg⟩ : ∃ g, segF l m = g := ⟨_, rfl⟩
      rw [hg] at hseg HSG
      obtain ⟨xa, hxa⟩ : ∃ a, px l m = a := ⟨_, rfl⟩
      obtain ⟨ya, hya⟩ : ∃ a, py l m = a := ⟨_, rfl⟩
      obtain ⟨xb, hxb⟩ : ∃ a, px l (m - 1) = a := ⟨_, rfl⟩
      obtain ⟨yb, hyb⟩ : ∃ a, py l (m - 1) = a := ⟨_, rfl⟩
      rw [hxa, hya, hxb, hyb] at hseg hbd
      rw [hxa, hya] at hbx1
      rw [hxb, hyb] at hbx2
      rw [hxa] at q1
      rw [hya] at q2
      rw [hxb] at r1
      rw [hyb] at r2
      have s1 := fun z : BelW v.w => BelW.cells q1 z
      have s2 := fun z : BelW v.w => BelW.cells q2 z
      have s3 := fun z : BelW v.w => BelW.cells r1 z
      have s4 := fun z : BelW v.w => BelW.cells r2 z
      have e1 : IntKind.i64.wrap (ya - yb) = ya - yb := IntWalk.i64_in _ (by omega)
      have e2 : IntKind.i64.wrap (xa - xb) = xa - xb := IntWalk.i64_in _ (by omega)
      have w1 : IntKind.i64.wrap ((m : Int) - 1) = (m : Int) - 1 := IntWalk.i64_in _ (by omega)
      have w2 : ((m : Int) - 1).toNat = m - 1 := by omega
      have w3 : (0 : Int) ≤ (m : Int) - 1 := by omega
      have w4 : (m : Int) - 1 < (l.length : Int) := by omega
      have CS := Lib.hid (fun (z : BelW v.w) => bel_of (x := z) (slope_is (ya - yb) (xa - xb) hbd.1 hbd.2 z.w))
      rw [← hseg] at CS
      have HUP := Lib.hid (fun z : BelW v.w => (show Below y.w.heap.size y.w z.w from below_next v.2 z.2))
      clear q1 q2 r1 r2 hbx1 hbx2 hxa hya hxb hyb hbd hg hseg hrv
      go_upto_region 8 with fail
      refine wp_rebase _ (fun X hX x2 => ?_)
      subst hX
      refine wp_region_belx (by kernel_rfl) (by kernel_rfl) ?_
      repeat (go_big_quiet_step ((first | (go_at_call 85; with_reducible exact CS.out _))))
      refine wpQuiet_nil ?_
      intro z1
      clear w1 w2 w3 w4
      have HS2 := Lib.hid (show max t g = stF l s (m + 1) ∧ StBd (max t g) from ⟨by rw [HSG.out.2, ← HT.out.1], by have := HT.out.2; have := HSG.out.1; unfold StBd at *; omega⟩)
      go_wp2_with fail
      go_roundw
      case rel => exact ⟨m + 1, max t g, by omega, by omega, by go_num, by first | rfl | (simp; done), Lib.hid HS2.out, ⟨z1.w, HUP.out z1⟩, rfl⟩
      case measure => simp [intOf]; omega
end Go.Proofs.YtngjakahanmepaaGreatDoor
