/- Part 28 of the proof of TopRights: basin.rightSlopes. Printed by wip/tools/mkbslo.py. -/
import Derived.Test.YtngjakahanmepaaGreatDoorM26
import Derived.Test.YtngjakahanmepaaGreatDoorM13
import Derived.Great.Walk
namespace Go.Proofs.YtngjakahanmepaaGreatDoor
open Go.RowKit
set_option linter.unusedVariables false
set_option linter.unusedSimpArgs false
def addAt (xs : List Int) (i : Nat) (v : Int) : List Int := xs.set i (IntKind.i64.wrap (gi xs i + v))
def curs (l : Lk) : List Cu := [⟨l.RA, l.rc, l.rate⟩, ⟨l.LA, l.lc, l.lo⟩, ⟨l.HA, l.hc, l.hi⟩]
def lkSum (xs : List Int) (l : Lk) : List Int :=
  if l.kind = 0 then (if l.to' = -1 then addAt xs l.fr.toNat (steepF (curs l)) else addAt (addAt xs l.fr.toNat (steepF (curs l))) l.to'.toNat (slopeF l.bnum l.bden))
  else if l.kind = 1 ∨ l.kind = 5 ∨ l.kind = 3 then addAt xs l.fr.toNat (slopeF l.num l.den)
  else if l.kind = 4 then addAt (addAt xs l.fr.toNat (2 * slopeF l.num l.den)) l.to'.toNat (2 * slopeF l.bnum l.bden)
  else xs
def sums0 (ps : List Pl) : List Int := ps.map fun p => slopeF p.num p.den
def sumsF (ps : List Pl) (ls : List Lk) : List Int := ls.foldl lkSum (sums0 ps)
def slOk (s : Int) : Bool := !decide (1099511627776 < s)
def slopesB (ps : List Pl) (ls : List Lk) : Bool := (sumsF ps ls).all slOk
def Vo (x : Int) : Prop := 0 ≤ x ∧ x ≤ 1125899906842624
structure LkSl (n : Nat) (l : Lk) : Prop where
  ok : LkOk n l
  gate : l.kind = 0 → (RightP l.rate ∧ RightP l.lo ∧ RightP l.hi) ∧ Vo l.bnum ∧ Vo l.bden
  weir : l.kind = 1 ∨ l.kind = 5 ∨ l.kind = 3 → Vo l.num ∧ Vo l.den
  seep : l.kind = 4 → (Vo l.num ∧ Vo l.den) ∧ Vo l.bnum ∧ Vo l.bden
theorem wrap_same (x : Int) : wrap64 x = IntKind.i64.wrap x := by rw [IntKind.wrap_i64]; first | rfl | (unfold wrap64; omega)
theorem range_far {W : World} {b o g q : Nat} {cs : List Value} {v : Value} (h : W.rangeAt b o cs) (hne : g ≠ b) : (W.setCell ⟨g, q, none⟩ v).rangeAt b o cs := fun j u hu => by
  rw [World.cell?_setCell_far _ _ _ _ (by exact hne)]
  exact h j u hu
def SloP (V : World) (g : Nat) (ps : List Pl) (s17 : Value) (wr : World) : Prop := ∃ k : Nat, k ≤ ps.length ∧ s17 = .int .i64 (k : Int) ∧ Below V.heap.size V wr ∧ IR wr V.heap.size g ps.length (gl ps.length (upto k (fun i => slopeF (pl ps i).num (pl ps i).den) (fun _ => 0)))
def SloL (V : World) (g : Nat) (ps : List Pl) (ls : List Lk) (s34 : Value) (wr : World) : Prop := ∃ k : Nat, ∃ xs : List Int, k ≤ ls.length ∧ s34 = .int .i64 (k : Int) ∧ Below V.heap.size V wr ∧ IR wr V.heap.size g ps.length xs ∧ Hid (xs = (ls.take k).foldl lkSum (sums0 ps))
def SloC (V : World) (xs : List Int) (s121 : Value) (wr : World) : Prop := ∃ k : Nat, k ≤ xs.length ∧ s121 = .int .i64 (k : Int) ∧ Hid ((xs.take k).all slOk = true) ∧ ∃ y : BelW V, wr = y.w
theorem sums0_gl (ps : List Pl) : gl ps.length (fun i => slopeF (pl ps i).num (pl ps i).den) = sums0 ps := gi_ext (by rw [gl_length]; simp [sums0]) fun i hi => by
  rw [gl_length] at hi
  rw [gl_at hi, pl_at hi]
  simp [gi, sums0, List.getD, hi]
set_option maxHeartbeats 32000000 in
set_option maxRecDepth 100000 in
theorem slopes_is (d0 d1 d2 d5 d6 d7 d8 d9 d10 : Value) (B LA : Option Addr) (cb lc : Nat) (ps : List Pl) (ls : List Lk) (hn : ps.length ≤ 1000) (hln : ls.length ≤ 9223372036854775807)
    (hpo : ∀ p ∈ ps, Vo p.num ∧ Vo p.den) (hlo : ∀ l ∈ ls, LkSl ps.length l) (w : World) (hp : Pls w B ps) (hl : Lks w LA ls) :
    Calls Tryz.prog 40 #[.agg #[d0, d1, d2, .slice B ps.length cb, .slice LA ls.length lc, d5, d6, d7, d8, d9, d10]] w fun e w' => e = .returned (.bool (slopesB ps ls)) ∧ Below w.heap.size w w' := by
  have HBP := Lib.hid (fun (xs : List Int) (hx : xs = sumsF ps ls) (k : Nat) (hk : k < xs.length) (h : slOk xs[k] = false) => (show slopesB ps ls = false by subst hx; exact all_bad hk h))
  have HGO := Lib.hid (fun (xs : List Int) (hx : xs = sumsF ps ls) (h1 : xs.all slOk = true) => (show slopesB ps ls = true by subst hx; exact h1))
  have HS0 := Lib.hid (sums0_gl ps)
  have HSF := Lib.hid (show sumsF ps ls = ls.foldl lkSum (sums0 ps) from rfl)
  obtain ⟨R, hR⟩ : ∃ b, slopesB ps ls = b := ⟨_, rfl⟩
  rw [hR] at HBP HGO ⊢
  clear hR
  obtain ⟨i1, hj0, hj1, hj2, hj3⟩ := info_parts info_int2
  have hmk : i1.bytes * ps.length ≤ 281474976710656 := by rw [hj3]; omega
  have hml : ps.length ≤ maxLen := by unfold maxLen; omega
  have INF := Lib.hid (And.intro hj0 (And.intro hj1 (And.intro hj2 (And.intro hmk hml))))
  clear hj0 hj1 hj2 hj3 hmk hml
  go_enter Tryz.func40, Tryz.ntmps40
  go_upto_region 1 with fail
  refine wp_rebase _ (fun V hV x0 => ?_)
  have HB0 := Lib.hid (show Below w.heap.size w V by rw [hV]; exact bel_alloc (Below.refl _ _) _)
  have HBB := Lib.hid (show V.rangeAt w.heap.size 0 [d0, d1, d2, .slice B ps.length cb, .slice LA ls.length lc, d5, d6, d7, d8, d9, d10] by rw [hV]; exact range_new _ _ [d0, d1, d2, .slice B ps.length cb, .slice LA ls.length lc, d5, d6, d7, d8, d9, d10])
  have HP := Lib.hid (hp.below (Nat.le_refl _) HB0.out)
  have HT := Lib.hid (hl.below (Nat.le_refl _) HB0.out)
  have HPO := Lib.hid hpo
  have HLO := Lib.hid hlo
  clear hV hl hp hpo hlo
  have HG := Lib.hid (fun (z : World) (hz : Below V.heap.size V z) => (show Below w.heap.size w z from below_next HB0.out hz))
  have HC3 := Lib.hid (fun (z : World) (hz : Below V.heap.size V z) => (show z.cell? ⟨w.heap.size, 3, none⟩ = some (.slice B ps.length cb) from BelW.range HBB.out ⟨z, hz⟩ 3 _ rfl))
  have HC4 := Lib.hid (fun (z : World) (hz : Below V.heap.size V z) => (show z.cell? ⟨w.heap.size, 4, none⟩ = some (.slice LA ls.length lc) from BelW.range HBB.out ⟨z, hz⟩ 4 _ rfl))
  have b3 := HC3.out x0.w x0.2
  go_wp2_with (first | (at_make; refine wpList_make_full _ rfl _ _ 29 rfl V.heap.size 3 i1 (.int .i64 0) 1 Tryz.underlying29 INF.out.1 INF.out.2.1 INF.out.2.2.1 _ _ _ _ ps.length (by rfl) (by rfl) (by rfl) (by rfl) INF.out.2.2.2.1 INF.out.2.2.2.2 x0.2.size ?_))
  intro w1 hown1 hg1
  have HB1 := Lib.hid (show Below V.heap.size V w1 from below_grown x0.2 hg1 (fun k hk => by cases hk))
  have HI1 := Lib.hid (ir_made2 hown1)
  clear hown1 hg1 b3
  obtain ⟨g, hg⟩ : ∃ g, x0.w.heap.size = g := ⟨_, rfl⟩
  rw [hg] at HI1 ⊢
  clear hg
  have b3 := HC3.out w1 HB1.out
  go_wp2_with fail
  go_loopw [17] (fun s17 wr => SloP V g ps s17 wr) (fun i _ => ps.length - (intOf i).toNat)
  case atStart => exact ⟨0, by omega, rfl, HB1.out, by rw [gl_none]; exact HI1.out⟩
  case round =>
    obtain ⟨k, hk, rfl, hbw, hir⟩ := hrel
    have HBW := Lib.hid hbw
    have HIR := Lib.hid hir
    clear hbw hir
    by_cases hlt : k < ps.length
    case neg =>
      have i4 : decide ((k : Int) < (ps.length : Int)) = false := decide_eq_false (by omega)
      obtain rfl : k = ps.length := by omega
      rw [gl_all, HS0.out] at HIR
      have b4 := HC4.out wr HBW.out
      clear b3
      go_wp2_with fail
      go_loopw [34] (fun s34 wr => SloL V g ps ls s34 wr) (fun i _ => ls.length - (intOf i).toNat)
      case atStart => exact ⟨0, _, by omega, rfl, HBW.out, HIR.out, Lib.hid rfl⟩
      case round =>
        clear HBW HIR b4
        obtain ⟨k, xs, hk, rfl, hbw, hir, hxs⟩ := hrel
        have HBW := Lib.hid hbw
        have HIR := Lib.hid hir
        have HXS := Lib.hid hxs.out
        clear hbw hir hxs
        by_cases hlt : k < ls.length
        case neg =>
          have i5 : decide ((k : Int) < (ls.length : Int)) = false := decide_eq_false (by omega)
          obtain rfl : k = ls.length := by omega
          have hxs : xs = sumsF ps ls := by rw [HSF.out, HXS.out, List.take_length]
          have HBD := Lib.hid (HBP.out xs hxs)
          have HOK := Lib.hid (HGO.out xs hxs)
          have hxl : xs.length = ps.length := HIR.out.len2
          clear hxs HXS HBP HGO
          refine wp_rebase _ (fun X hX x1 => ?_)
          have HBX := Lib.hid (show Below V.heap.size V X by rw [hX]; exact HBW.out)
          have HIX := Lib.hid (show IR X V.heap.size g ps.length xs by rw [hX]; exact HIR.out)
          clear hX HBW HIR
          go_wp2_with fail
          go_loopw [121] (fun s121 wr => SloC X xs s121 wr) (fun i _ => ps.length - (intOf i).toNat)
          case atStart => exact ⟨0, by omega, rfl, Lib.hid (all_none _ _), x1, rfl⟩
          case round =>
            obtain ⟨k, hk, rfl, hal, y, rfl⟩ := hrel
            have HAL := Lib.hid hal.out
            clear hal
            by_cases hlt : k < xs.length
            case neg =>
              have i6 : decide ((k : Int) < (ps.length : Int)) = false := decide_eq_false (by omega)
              obtain rfl : k = xs.length := by omega
              have hr := HOK.out (all_end HAL.out)
              subst hr
              clear HAL HOK HBD
              go_wp2_with fail
              go_ret
              exact ⟨rfl, HG.out _ (below_next HBX.out y.2)⟩
            have i6 : decide ((k : Int) < (ps.length : Int)) = true := decide_eq_true (by omega)
            have j1 : (0 : Int) ≤ (k : Int) := by omega
            have j2 : (k : Int) < (ps.length : Int) := by omega
            have c1 : y.w.cell? ⟨g, k, none⟩ = some (.int .i64 (gi xs k)) := (HIX.out.next y.2).cellq (by omega)
            have HNX := Lib.hid (fun h => all_next hlt HAL.out h)
            have HBK := Lib.hid (HBD.out k hlt)
            have hgi : gi xs k = xs[k] := by simp [gi, List.getD, hlt]
            rw [← hgi] at HNX HBK
            obtain ⟨s, hs⟩ : ∃ s, gi xs k = s := ⟨_, rfl⟩
            rw [hs] at HNX HBK c1
            clear hs hgi
            by_cases hbig : 1099511627776 < s
            · have t1 : decide (1099511627776 < s) = true := decide_eq_true hbig
              have hr := HBK.out (by unfold slOk; rw [t1]; rfl)
              subst hr
              clear hbig
              go_wp2_with fail
              go_ret
              exact ⟨rfl, HG.out _ (below_next HBX.out y.2)⟩
            have t1 : decide (1099511627776 < s) = false := decide_eq_false hbig
            have HN2 := Lib.hid (HNX.out (by unfold slOk; rw [t1]; rfl))
            clear hbig
            go_wp2_with fail
            go_roundw
            case rel => exact ⟨k + 1, by omega, by go_num, Lib.hid HN2.out, y, rfl⟩
            case measure => simp [intOf]; omega
        have i5 : decide ((k : Int) < (ls.length : Int)) = true := decide_eq_true (by omega)
        have j1 : (0 : Int) ≤ (k : Int) := by omega
        have j2 : (k : Int) < (ls.length : Int) := by omega
        obtain ⟨rd, rb0, ro, rfl, hbs, hE, hrt⟩ := (HT.out.below (Nat.le_refl _) HBW.out).at hlt
        have HXN := Lib.hid (fun ys (h : ys = lkSum xs ls[k]) => (show ys = (ls.take (k + 1)).foldl lkSum (sums0 ps) by rw [foldl_take _ _ hlt, ← HXS.out]; exact h))
        have hok := HLO.out _ (List.getElem_mem hlt)
        have HXR := Lib.hid (And.intro (HT.out.rate _ (List.getElem_mem hlt)) (And.intro (HT.out.lo _ (List.getElem_mem hlt)) (HT.out.hi _ (List.getElem_mem hlt))))
        obtain ⟨X, hX⟩ : ∃ X, ls[k] = X := ⟨_, rfl⟩
        rw [hX] at hrt HXN hok HXR
        clear hX hbs HXS
        obtain ⟨nm, kind, fr, to', RA, rc, rate, LB, lcc, lo, HA, hc, hi, pos, spd, leak, crest, num, den, prime, brk, bnum, bden, delay⟩ := X
        obtain ⟨⟨hfr, hto, hsp⟩, hga, hwe, hse⟩ := hok
        simp only at hfr hto hsp hga hwe hse
        have HRG := Lib.hid (show wr.rangeAt rb0 ro [.string nm, .int .i64 kind, .int .i64 fr, .int .i64 to', .slice RA rate.length rc, .slice LB lo.length lcc, .slice HA hi.length hc, .int .i64 pos, .int .i64 spd, .int .i64 leak, .int .i64 crest, .int .i64 num, .int .i64 den, .int .i64 prime, .int .i64 brk, .int .i64 bnum, .int .i64 bden, .int .i64 delay] from hrt)
        clear hrt
        have b4 := HC4.out wr HBW.out
        have hgb := HIR.out.blk
        have hxl : xs.length = ps.length := HIR.out.len2
        go_upto_region 10 with (first
          | (with_reducible refine wpList_load_g 98 _ (by with_reducible rfl) rb0 ro (by with_unfolding_all rfl) (by with_unfolding_all rfl) _ _ HRG.out Tryz.underlying98 (by with_unfolding_all rfl) (by kernel_rfl) ?_)
          | (with_reducible refine wpList_store_new (z := [.string ⟨#[]⟩, .int .i64 0, .int .i64 0, .int .i64 0, .slice none 0 0, .slice none 0 0, .slice none 0 0, .int .i64 0, .int .i64 0, .int .i64 0, .int .i64 0, .int .i64 0, .int .i64 0, .int .i64 0, .int .i64 0, .int .i64 0, .int .i64 0, .int .i64 0]) (cs := [.string nm, .int .i64 kind, .int .i64 fr, .int .i64 to', .slice RA rate.length rc, .slice LB lo.length lcc, .slice HA hi.length hc, .int .i64 pos, .int .i64 spd, .int .i64 leak, .int .i64 crest, .int .i64 num, .int .i64 den, .int .i64 prime, .int .i64 brk, .int .i64 bnum, .int .i64 bden, .int .i64 delay]) 98 _ _ (by with_reducible rfl) (by with_unfolding_all rfl) wr.heap.size (by with_reducible rfl) _ (by with_unfolding_all rfl) (by with_unfolding_all rfl) (by with_unfolding_all rfl) (by kernel_rfl) (by with_unfolding_all rfl) ?_))
        clear b4
        refine wp_rebase _ (fun X hX x1 => ?_)
        have hbX : Below wr.heap.size wr X := by rw [hX]; exact bel_alloc (Below.refl _ _) _
        have HBX := Lib.hid (show Below V.heap.size V X from below_next HBW.out hbX)
        have HIX := Lib.hid (HIR.out.next hbX)
        have HN := Lib.hid (show X.rangeAt wr.heap.size 0 [.string nm, .int .i64 kind, .int .i64 fr, .int .i64 to', .slice RA rate.length rc, .slice LB lo.length lcc, .slice HA hi.length hc, .int .i64 pos, .int .i64 spd, .int .i64 leak, .int .i64 crest, .int .i64 num, .int .i64 den, .int .i64 prime, .int .i64 brk, .int .i64 bnum, .int .i64 bden, .int .i64 delay] by rw [hX]; exact range_new wr 98 [.string nm, .int .i64 kind, .int .i64 fr, .int .i64 to', .slice RA rate.length rc, .slice LB lo.length lcc, .slice HA hi.length hc, .int .i64 pos, .int .i64 spd, .int .i64 leak, .int .i64 crest, .int .i64 num, .int .i64 den, .int .i64 prime, .int .i64 brk, .int .i64 bnum, .int .i64 bden, .int .i64 delay])
        have HNV := Lib.hid (show V.heap.size ≤ wr.heap.size from HBW.out.size)
        obtain ⟨nb, hnb⟩ : ∃ n, wr.heap.size = n := ⟨_, rfl⟩
        rw [hnb] at HN HNV hgb ⊢
        have HGN := Lib.hid (show g ≠ nb by omega)
        have HGV := Lib.hid hgb.1
        have HXRX := Lib.hid (fun (z : World) (hz : Below V.heap.size V z) => (show Rd z RA (spCells rate) ∧ Rd z LB (spCells lo) ∧ Rd z HA (spCells hi) from ⟨HXR.out.1.below (Nat.le_refl _) hz, HXR.out.2.1.below (Nat.le_refl _) hz, HXR.out.2.2.below (Nat.le_refl _) hz⟩))
        clear hX hnb hbX HRG hE HIR HBW HXR hgb
        obtain ⟨f, rfl⟩ : ∃ f : Nat, fr = (f : Int) := ⟨fr.toNat, by omega⟩
        have hf : f < ps.length := by omega
        have q1 : (0 : Int) ≤ (f : Int) := by omega
        have q2 : (f : Int) < (ps.length : Int) := by omega
        have n1 := fun z : BelW X => (show z.w.cell? ⟨nb, 1, none⟩ = some (.int .i64 kind) from BelW.range HN.out z 1 _ rfl)
        by_cases k0 : kind = 0
        case pos =>
          obtain ⟨⟨hr1, hr2, hr3⟩, hbn, hbd⟩ := hga k0
          clear hga hwe hse hsp
          subst k0
          go_upto_region 12 with fail
          have n2 := fun z : BelW X => (show z.w.cell? ⟨nb, 2, none⟩ = some (.int .i64 (f : Int)) from BelW.range HN.out z 2 _ rfl)
          have n4 := fun z : BelW X => (show z.w.cell? ⟨nb, 4, none⟩ = some (.slice RA rate.length rc) from BelW.range HN.out z 4 _ rfl)
          have n5 := fun z : BelW X => (show z.w.cell? ⟨nb, 5, none⟩ = some (.slice LB lo.length lcc) from BelW.range HN.out z 5 _ rfl)
          have n6 := fun z : BelW X => (show z.w.cell? ⟨nb, 6, none⟩ = some (.slice HA hi.length hc) from BelW.range HN.out z 6 _ rfl)
          have hxa := fun z : BelW X => (show z.w.cell? ⟨g, f, none⟩ = some (.int .i64 (gi xs f)) from (HIX.out.next z.2).cellq hf)
          obtain ⟨o, ho⟩ : ∃ o, gi xs f = o := ⟨_, rfl⟩
          rw [ho] at hxa
          obtain ⟨s, hs⟩ : ∃ s, steepF (curs ⟨nm, 0, (f : Int), to', RA, rc, rate, LB, lcc, lo, HA, hc, hi, pos, spd, leak, crest, num, den, prime, brk, bnum, bden, delay⟩) = s := ⟨_, rfl⟩
          obtain ⟨r, hr⟩ : ∃ r, IntKind.i64.wrap (o + s) = r := ⟨_, rfl⟩
          have hrw : wrap64 (o + s) = r := (wrap_same _).trans hr
          have HAD := Lib.hid (show xs.set f r = addAt xs f (steepF (curs ⟨nm, 0, (f : Int), to', RA, rc, rate, LB, lcc, lo, HA, hc, hi, pos, spd, leak, crest, num, den, prime, brk, bnum, bden, delay⟩)) by unfold addAt; rw [ho, hs, hr])
          have HS0 := Lib.hid (show ∃ z : BelW X, x1.w.drew = z.w from ⟨⟨_, x1.2.drew⟩, rfl⟩)
          have HSL := Lib.hid (fun (z : BelW X) => (show Calls Tryz.prog 86 #[.slice (some ⟨z.w.heap.size, 0, none⟩) 3 3] (z.w.alloc (.cells #[.slice RA rate.length rc, .slice LB lo.length lcc, .slice HA hi.length hc] 87)) fun e w' => e = .returned (.int .i64 s) ∧ Below (z.w.alloc (.cells #[.slice RA rate.length rc, .slice LB lo.length lcc, .slice HA hi.length hc] 87)).heap.size (z.w.alloc (.cells #[.slice RA rate.length rc, .slice LB lo.length lcc, .slice HA hi.length hc] 87)) w' from by
            have hbz : Below V.heap.size V (z.w.alloc (.cells #[.slice RA rate.length rc, .slice LB lo.length lcc, .slice HA hi.length hc] 87)) := below_next HBX.out (bel_alloc z.2 _)
            have h3 := HXRX.out _ hbz
            have := steep_is (some ⟨z.w.heap.size, 0, none⟩) 3 (curs ⟨nm, 0, (f : Int), to', RA, rc, rate, LB, lcc, lo, HA, hc, hi, pos, spd, leak, crest, num, den, prime, brk, bnum, bden, delay⟩) (by simp [curs]) (by simp only [curs, List.mem_cons, List.not_mem_nil, or_false]; rintro x (rfl | rfl | rfl) <;> assumption) _ (rd_new z.w [.slice RA rate.length rc, .slice LB lo.length lcc, .slice HA hi.length hc] 87) (by simp only [curs, List.mem_cons, List.not_mem_nil, or_false]; rintro x (rfl | rfl | rfl); exact h3.1; exact h3.2.1; exact h3.2.2)
            rw [hs] at this
            exact this))
          clear ho hs hr1 hr2 hr3
          refine wp_region_tail 16 (fun w' => ∃ z : BelW X, w' = z.w) (by kernel_rfl) (by kernel_rfl) HS0.out ?_
          refine wpK_take (i := 0) (v := ?v0) (by kernel_rfl) rfl (by omega) (by kernel_rfl) (by kernel_rfl) (fun _ _ _ h => h) (Or.inl ⟨by rfl, ?y0⟩) HS0.out ?_
          case y0 => intro w1 hS; (go_simp <;> with_reducible rfl)
          simp only [Act.put, List.setIfInBounds_toArray, List.set_cons_zero, List.set_cons_succ]
          refine wpK_take (i := 1) (v := ?v1) (by kernel_rfl) rfl (by omega) (by kernel_rfl) (by kernel_rfl) (fun _ _ _ h => h) (Or.inl ⟨by rfl, ?y1⟩) HS0.out ?_
          case y1 => intro w1 hS; (go_simp <;> with_reducible rfl)
          simp only [Act.put, List.setIfInBounds_toArray, List.set_cons_zero, List.set_cons_succ]
          refine wpK_take (i := 2) (v := ?v2) (by kernel_rfl) rfl (by omega) (by kernel_rfl) (by kernel_rfl) (fun _ _ _ h => h) (Or.inl ⟨by rfl, ?y2⟩) HS0.out ?_
          case y2 => intro w1 hS; obtain ⟨z, rfl⟩ := hS; (go_simp <;> with_reducible rfl)
          simp only [Act.put, List.setIfInBounds_toArray, List.set_cons_zero, List.set_cons_succ]
          refine wpK_take (i := 3) (v := ?v3) (by kernel_rfl) rfl (by omega) (by kernel_rfl) (by kernel_rfl) (fun _ _ _ h => h) (Or.inl ⟨by rfl, ?y3⟩) HS0.out ?_
          case y3 => intro w1 hS; (go_simp <;> with_reducible rfl)
          simp only [Act.put, List.setIfInBounds_toArray, List.set_cons_zero, List.set_cons_succ]
          refine wpK_take (i := 4) (v := ?v4) (by kernel_rfl) rfl (by omega) (by kernel_rfl) (by kernel_rfl) (fun _ _ _ h => h) (Or.inl ⟨by rfl, ?y4⟩) HS0.out ?_
          case y4 => intro w1 hS; obtain ⟨z, rfl⟩ := hS; (go_simp <;> with_reducible rfl)
          simp only [Act.put, List.setIfInBounds_toArray, List.set_cons_zero, List.set_cons_succ]
          refine wpK_take (i := 5) (v := ?v5) (by kernel_rfl) rfl (by omega) (by kernel_rfl) (by kernel_rfl) (fun _ _ _ h => h) (Or.inl ⟨by rfl, ?y5⟩) HS0.out ?_
          case y5 => intro w1 hS; (go_simp <;> with_reducible rfl)
          simp only [Act.put, List.setIfInBounds_toArray, List.set_cons_zero, List.set_cons_succ]
          refine wpK_take (i := 6) (v := ?v6) (by kernel_rfl) rfl (by omega) (by kernel_rfl) (by kernel_rfl) (fun _ _ _ h => h) (Or.inl ⟨by rfl, ?y6⟩) HS0.out ?_
          case y6 => intro w1 hS; obtain ⟨z, rfl⟩ := hS; (go_simp <;> with_reducible rfl)
          simp only [Act.put, List.setIfInBounds_toArray, List.set_cons_zero, List.set_cons_succ]
          refine wpK_take (i := 7) (v := ?v7) (by kernel_rfl) rfl (by omega) (by kernel_rfl) (by kernel_rfl) (fun _ _ _ h => h) (Or.inl ⟨by rfl, ?y7⟩) HS0.out ?_
          case y7 => intro w1 hS; (go_simp <;> with_reducible rfl)
          simp only [Act.put, List.setIfInBounds_toArray, List.set_cons_zero, List.set_cons_succ]
          refine wpK_take (i := 8) (v := ?v8) (by kernel_rfl) rfl (by omega) (by kernel_rfl) (by kernel_rfl) (fun _ _ _ h => h) (Or.inl ⟨by rfl, ?y8⟩) HS0.out ?_
          case y8 => intro w1 hS; (go_simp <;> with_reducible rfl)
          simp only [Act.put, List.setIfInBounds_toArray, List.set_cons_zero, List.set_cons_succ]
          refine wpK_take (i := 9) (v := ?v9) (by kernel_rfl) rfl (by omega) (by kernel_rfl) (by kernel_rfl) (fun _ _ _ h => h) (Or.inl ⟨by rfl, ?y9⟩) HS0.out ?_
          case y9 => intro w1 hS; obtain ⟨z, rfl⟩ := hS; (go_simp <;> with_reducible rfl)
          simp only [Act.put, List.setIfInBounds_toArray, List.set_cons_zero, List.set_cons_succ]
          refine wpK_take (i := 10) (v := ?v10) (by kernel_rfl) rfl (by omega) (by kernel_rfl) (by kernel_rfl) (fun _ _ _ h => h) (Or.inl ⟨by rfl, ?y10⟩) HS0.out ?_
          case y10 => intro w1 hS; (go_simp <;> with_reducible rfl)
          simp only [Act.put, List.setIfInBounds_toArray, List.set_cons_zero, List.set_cons_succ]
          refine wpK_take (i := 11) (v := ?v11) (by kernel_rfl) rfl (by omega) (by kernel_rfl) (by kernel_rfl) (fun _ _ _ h => h) (Or.inl ⟨by rfl, ?y11⟩) HS0.out ?_
          case y11 => intro w1 hS; (go_simp <;> with_reducible rfl)
          simp only [Act.put, List.setIfInBounds_toArray, List.set_cons_zero, List.set_cons_succ]
          refine wpK_take (i := 12) (v := ?v12) (by kernel_rfl) rfl (by omega) (by kernel_rfl) (by kernel_rfl) (fun _ _ _ h => h) (Or.inl ⟨by rfl, ?y12⟩) HS0.out ?_
          case y12 => intro w1 hS; obtain ⟨z, rfl⟩ := hS; (go_simp <;> with_reducible rfl)
          simp only [Act.put, List.setIfInBounds_toArray, List.set_cons_zero, List.set_cons_succ]
          refine wpK_one 13 rfl (by omega) (by kernel_rfl) ?_
          refine Go.Great.wpList_buildSliceTo rfl _ 87 3 _ rfl x1.w.drew.heap.size rfl _ rfl (by kernel_rfl) #[.slice RA rate.length rc, .slice LB lo.length lcc, .slice HA hi.length hc] (by kernel_rfl) ?_
          simp only [Act.put, List.setIfInBounds_toArray, List.set_cons_zero, List.set_cons_succ]
          have HS1 := Lib.hid (show ∃ z : BelW X, x1.w.drew.alloc (.cells #[.slice RA rate.length rc, .slice LB lo.length lcc, .slice HA hi.length hc] 87) = z.w from ⟨⟨_, bel_alloc x1.2.drew _⟩, rfl⟩)
          refine ⟨HS1.out, ?_⟩
          refine wpK_one 14 rfl (by omega) (by kernel_rfl) ?_
          go_wp2_with fail
          refine (HSL.out ⟨_, x1.2.drew⟩).mono ?_
          rintro e w2 ⟨rfl, hb2⟩
          have HB2 := Lib.hid (show Below X.heap.size X w2 from below_next (bel_alloc x1.2.drew _) hb2)
          clear hb2
          go_wp2_with fail
          have HS2 := Lib.hid (show ∃ z : BelW X, w2 = z.w from ⟨⟨_, HB2.out⟩, rfl⟩)
          refine ⟨HS2.out, ?_⟩
          refine wpK_one 15 rfl (by omega) (by kernel_rfl) ?_
          go_wp2_with fail
          refine ⟨HS2.out, wpK_done (by kernel_rfl) ?_⟩
          simp only [List.drop_succ_cons, List.drop_zero]
          have hcu : w2.cell? ⟨g, f, none⟩ = some (.int .i64 o) := hxa ⟨w2, HB2.out⟩
          have hfu := (HIX.out.next HB2.out).fz f
          go_upto_region 13 with fail
          refine wp_rebase _ (fun U hU u0 => ?_)
          have HBU := Lib.hid (show Below V.heap.size V U by rw [hU]; exact (below_next HBX.out HB2.out).setCell HGV.out _)
          have HIU := Lib.hid (show IR U V.heap.size g ps.length (addAt xs f (steepF (curs ⟨nm, 0, (f : Int), to', RA, rc, rate, LB, lcc, lo, HA, hc, hi, pos, spd, leak, crest, num, den, prime, brk, bnum, bden, delay⟩))) by rw [hU, ← HAD.out]; exact (HIX.out.next HB2.out).put f r)
          have HNU := Lib.hid (range_far (q := f) (v := .int .i64 r) (BelW.range HN.out ⟨w2, HB2.out⟩) HGN.out)
          have HNU := Lib.hid (show U.rangeAt nb 0 _ from hU ▸ HNU.out)
          clear hU hcu hfu hxa n1 n2 n4 n5 n6
          obtain ⟨ys, hys⟩ : ∃ ys, addAt xs f (steepF (curs ⟨nm, 0, (f : Int), to', RA, rc, rate, LB, lcc, lo, HA, hc, hi, pos, spd, leak, crest, num, den, prime, brk, bnum, bden, delay⟩)) = ys := ⟨_, rfl⟩
          rw [hys] at HIU
          have HYS := Lib.hid hys
          clear hys
          by_cases t1 : to' = -1
          case pos =>
            have HFX := Lib.hid (HXN.out _ (show ys = _ by rw [← HYS.out]; simp [lkSum, t1]))
            subst t1
            clear hto
            have n3 := fun z : BelW U => (show z.w.cell? ⟨nb, 3, none⟩ = some (.int .i64 (-1)) from BelW.range HNU.out z 3 _ rfl)
            go_wp2_with fail
            go_roundw
            case rel => exact ⟨k + 1, _, by omega, by go_num, below_next HBU.out u0.2, HIU.out.next u0.2, Lib.hid HFX.out⟩
            case measure => simp [intOf]; omega
          have t3 : (to' != -1) = true := bne_iff_ne.2 t1
          obtain ⟨d, rfl⟩ : ∃ d : Nat, to' = (d : Int) := ⟨to'.toNat, by omega⟩
          have hd : d < ps.length := by omega
          have q3 : (0 : Int) ≤ (d : Int) := by omega
          have q4 : (d : Int) < (ps.length : Int) := by omega
          have HFX := Lib.hid (fun zs (h : zs = addAt ys d (slopeF bnum bden)) => HXN.out zs (by rw [h, ← HYS.out]; simp [lkSum, t1]))
          clear t1 hto HYS
          have n3 := fun z : BelW U => (show z.w.cell? ⟨nb, 3, none⟩ = some (.int .i64 (d : Int)) from BelW.range HNU.out z 3 _ rfl)
          go_upto_region 14 with fail
          have na := fun z : BelW U => (show z.w.cell? ⟨nb, 15, none⟩ = some (.int .i64 bnum) from BelW.range HNU.out z 15 _ rfl)
          have nc := fun z : BelW U => (show z.w.cell? ⟨nb, 16, none⟩ = some (.int .i64 bden) from BelW.range HNU.out z 16 _ rfl)
          have hcx := fun z : BelW U => (show z.w.cell? ⟨g, d, none⟩ = some (.int .i64 (gi (ys) d)) from (HIU.out.next z.2).cellq (by assumption))
          obtain ⟨o, ho⟩ : ∃ o, gi (ys) d = o := ⟨_, rfl⟩
          rw [ho] at hcx
          have hsb := slopeF_bd (num := bnum) (den := bden) (by assumption : Vo bnum).1 (by assumption : Vo bden).1
          obtain ⟨s, hs⟩ : ∃ s, slopeF bnum bden = s := ⟨_, rfl⟩
          have CS := Lib.hid (fun z : BelW U => bel_of (x := z) (show Calls Tryz.prog 85 #[.int .i64 bnum, .int .i64 bden] z.w fun e w' => e = .returned (.int .i64 s) ∧ Below z.w.heap.size z.w w' from hs ▸ slope_is _ _ (by assumption) (by assumption) z.w))
          rw [hs] at hsb
          obtain ⟨r, hr⟩ : ∃ r, IntKind.i64.wrap (o + s) = r := ⟨_, rfl⟩
          have hrw : wrap64 (o + s) = r := (wrap_same _).trans hr
          have HAD := Lib.hid (show (ys).set d r = addAt (ys) d (slopeF bnum bden) by unfold addAt; rw [ho, hs, hr])
          clear ho hs hsb
          refine wp_region_belt 11 (by kernel_rfl) (by kernel_rfl) ?_
          simp only [List.take_succ_cons, List.take_zero, List.drop_succ_cons, List.drop_zero]
          repeat (go_big_quiet_step ((first | (go_at_call 85; with_reducible exact CS.out _))))
          refine wpQuiet_nil ?_
          intro y1
          have hcu := hcx y1
          have hfu := (show y1.w.frozen? ⟨g, d, none⟩ = false from (HIU.out.next y1.2).fz d)
          go_upto_region 22 with fail
          refine wp_rebase _ (fun U2 hU u2 => ?_)
          have HBU2 := Lib.hid (show Below V.heap.size V U2 by rw [hU]; exact (below_next HBU.out y1.2).setCell HGV.out _)
          have HIU2 := Lib.hid (show IR U2 V.heap.size g ps.length (addAt (ys) d (slopeF bnum bden)) by rw [hU, ← HAD.out]; exact (HIU.out.next y1.2).put d r)
          clear hU hcu hfu hcx na nc hr hrw HAD CS
          go_wp2_with fail
          go_roundw
          case rel => exact ⟨k + 1, _, by omega, by go_num, below_next HBU2.out u2.2, HIU2.out.next u2.2, Lib.hid (HFX.out _ rfl)⟩
          case measure => simp [intOf]; omega
        by_cases k1 : kind = 1 ∨ kind = 5 ∨ kind = 3
        case pos =>
          obtain ⟨hbn, hbd⟩ := hwe k1
          clear hga hwe hse hsp hto
          have HFX := Lib.hid (fun ys (h : ys = addAt xs f (slopeF num den)) => HXN.out ys (by rw [h]; simp [lkSum, k0, k1]))
          rcases k1 with rfl | rfl | rfl
          all_goals
            clear k0
            go_upto_region 18 with fail
            have n2 := fun z : BelW X => (show z.w.cell? ⟨nb, 2, none⟩ = some (.int .i64 (f : Int)) from BelW.range HN.out z 2 _ rfl)
            have na := fun z : BelW X => (show z.w.cell? ⟨nb, 11, none⟩ = some (.int .i64 num) from BelW.range HN.out z 11 _ rfl)
            have nc := fun z : BelW X => (show z.w.cell? ⟨nb, 12, none⟩ = some (.int .i64 den) from BelW.range HN.out z 12 _ rfl)
            have hcx := fun z : BelW X => (show z.w.cell? ⟨g, f, none⟩ = some (.int .i64 (gi (xs) f)) from (HIX.out.next z.2).cellq (by assumption))
            obtain ⟨o, ho⟩ : ∃ o, gi (xs) f = o := ⟨_, rfl⟩
            rw [ho] at hcx
            have hsb := slopeF_bd (num := num) (den := den) (by assumption : Vo num).1 (by assumption : Vo den).1
            obtain ⟨s, hs⟩ : ∃ s, slopeF num den = s := ⟨_, rfl⟩
            have CS := Lib.hid (fun z : BelW X => bel_of (x := z) (show Calls Tryz.prog 85 #[.int .i64 num, .int .i64 den] z.w fun e w' => e = .returned (.int .i64 s) ∧ Below z.w.heap.size z.w w' from hs ▸ slope_is _ _ (by assumption) (by assumption) z.w))
            rw [hs] at hsb
            obtain ⟨r, hr⟩ : ∃ r, IntKind.i64.wrap (o + s) = r := ⟨_, rfl⟩
            have hrw : wrap64 (o + s) = r := (wrap_same _).trans hr
            have HAD := Lib.hid (show (xs).set f r = addAt (xs) f (slopeF num den) by unfold addAt; rw [ho, hs, hr])
            clear ho hs hsb
            refine wp_region_belt 11 (by kernel_rfl) (by kernel_rfl) ?_
            simp only [List.take_succ_cons, List.take_zero, List.drop_succ_cons, List.drop_zero]
            repeat (go_big_quiet_step ((first | (go_at_call 85; with_reducible exact CS.out _))))
            refine wpQuiet_nil ?_
            intro y1
            have hcu := hcx y1
            have hfu := (show y1.w.frozen? ⟨g, f, none⟩ = false from (HIX.out.next y1.2).fz f)
            go_upto_region 22 with fail
            refine wp_rebase _ (fun U hU u0 => ?_)
            have HBU := Lib.hid (show Below V.heap.size V U by rw [hU]; exact (below_next HBX.out y1.2).setCell HGV.out _)
            have HIU := Lib.hid (show IR U V.heap.size g ps.length (addAt (xs) f (slopeF num den)) by rw [hU, ← HAD.out]; exact (HIX.out.next y1.2).put f r)
            clear hU hcu hfu hcx na nc hr hrw HAD CS
            go_wp2_with fail
            go_roundw
            case rel => exact ⟨k + 1, _, by omega, by go_num, below_next HBU.out u0.2, HIU.out.next u0.2, Lib.hid (HFX.out _ rfl)⟩
            case measure => simp [intOf]; omega
        by_cases k4 : kind = 4
        case pos =>
          obtain ⟨⟨hbn, hbd⟩, hbn2, hbd2⟩ := hse k4
          have hto2 := hto.resolve_left (hsp k4)
          clear hga hwe hse hsp hto k0 k1
          subst k4
          obtain ⟨d, rfl⟩ : ∃ d : Nat, to' = (d : Int) := ⟨to'.toNat, by omega⟩
          have hd : d < ps.length := by omega
          have q3 : (0 : Int) ≤ (d : Int) := by omega
          have q4 : (d : Int) < (ps.length : Int) := by omega
          have HFX := Lib.hid (fun ys (h : ys = addAt (addAt xs f (2 * slopeF num den)) d (2 * slopeF bnum bden)) => HXN.out ys (by rw [h]; simp [lkSum]))
          clear hto2
          go_upto_region 20 with fail
          have n2 := fun z : BelW X => (show z.w.cell? ⟨nb, 2, none⟩ = some (.int .i64 (f : Int)) from BelW.range HN.out z 2 _ rfl)
          have na := fun z : BelW X => (show z.w.cell? ⟨nb, 11, none⟩ = some (.int .i64 num) from BelW.range HN.out z 11 _ rfl)
          have nc := fun z : BelW X => (show z.w.cell? ⟨nb, 12, none⟩ = some (.int .i64 den) from BelW.range HN.out z 12 _ rfl)
          have hcx := fun z : BelW X => (show z.w.cell? ⟨g, f, none⟩ = some (.int .i64 (gi (xs) f)) from (HIX.out.next z.2).cellq (by assumption))
          obtain ⟨o, ho⟩ : ∃ o, gi (xs) f = o := ⟨_, rfl⟩
          rw [ho] at hcx
          have hsb := slopeF_bd (num := num) (den := den) (by assumption : Vo num).1 (by assumption : Vo den).1
          obtain ⟨s, hs⟩ : ∃ s, slopeF num den = s := ⟨_, rfl⟩
          have CS := Lib.hid (fun z : BelW X => bel_of (x := z) (show Calls Tryz.prog 85 #[.int .i64 num, .int .i64 den] z.w fun e w' => e = .returned (.int .i64 s) ∧ Below z.w.heap.size z.w w' from hs ▸ slope_is _ _ (by assumption) (by assumption) z.w))
          rw [hs] at hsb
          have hm1 : IntKind.i64.wrap (2 * s) = 2 * s := IntWalk.i64_in _ (by omega)
          have hm2 : wrap64 (2 * s) = 2 * s := (wrap_same _).trans hm1
          obtain ⟨r, hr⟩ : ∃ r, IntKind.i64.wrap (o + 2 * s) = r := ⟨_, rfl⟩
          have hrw : wrap64 (o + 2 * s) = r := (wrap_same _).trans hr
          have HAD := Lib.hid (show (xs).set f r = addAt (xs) f (2 * slopeF num den) by unfold addAt; rw [ho, hs, hr])
          clear ho hs hsb
          refine wp_region_belt 12 (by kernel_rfl) (by kernel_rfl) ?_
          simp only [List.take_succ_cons, List.take_zero, List.drop_succ_cons, List.drop_zero]
          repeat (go_big_quiet_step ((first | (go_at_call 85; with_reducible exact CS.out _))))
          refine wpQuiet_nil ?_
          intro y1
          have hcu := hcx y1
          have hfu := (show y1.w.frozen? ⟨g, f, none⟩ = false from (HIX.out.next y1.2).fz f)
          go_upto_region 21 with fail
          refine wp_rebase _ (fun U hU u0 => ?_)
          have HBU := Lib.hid (show Below V.heap.size V U by rw [hU]; exact (below_next HBX.out y1.2).setCell HGV.out _)
          have HIU := Lib.hid (show IR U V.heap.size g ps.length (addAt (xs) f (2 * slopeF num den)) by rw [hU, ← HAD.out]; exact (HIX.out.next y1.2).put f r)
          have HNU0 := Lib.hid (range_far (q := f) (v := .int .i64 r) (BelW.range HN.out y1) HGN.out)
          have HNU := Lib.hid (show U.rangeAt nb 0 _ from hU ▸ HNU0.out)
          clear HNU0
          clear hU hcu hfu hcx na nc hr hrw HAD CS hm1 hm2
          obtain ⟨ys, hys⟩ : ∃ ys, addAt xs f (2 * slopeF num den) = ys := ⟨_, rfl⟩
          rw [hys] at HIU
          have HFX := Lib.hid (fun zs (h : zs = addAt ys d (2 * slopeF bnum bden)) => HFX.out zs (by rw [h, ← hys]))
          clear hys
          have n3 := fun z : BelW U => (show z.w.cell? ⟨nb, 3, none⟩ = some (.int .i64 (d : Int)) from BelW.range HNU.out z 3 _ rfl)
          go_upto_region 21 with fail
          have na := fun z : BelW U => (show z.w.cell? ⟨nb, 15, none⟩ = some (.int .i64 bnum) from BelW.range HNU.out z 15 _ rfl)
          have nc := fun z : BelW U => (show z.w.cell? ⟨nb, 16, none⟩ = some (.int .i64 bden) from BelW.range HNU.out z 16 _ rfl)
          have hcx := fun z : BelW U => (show z.w.cell? ⟨g, d, none⟩ = some (.int .i64 (gi (ys) d)) from (HIU.out.next z.2).cellq (by assumption))
          obtain ⟨o, ho⟩ : ∃ o, gi (ys) d = o := ⟨_, rfl⟩
          rw [ho] at hcx
          have hsb := slopeF_bd (num := bnum) (den := bden) (by assumption : Vo bnum).1 (by assumption : Vo bden).1
          obtain ⟨s, hs⟩ : ∃ s, slopeF bnum bden = s := ⟨_, rfl⟩
          have CS := Lib.hid (fun z : BelW U => bel_of (x := z) (show Calls Tryz.prog 85 #[.int .i64 bnum, .int .i64 bden] z.w fun e w' => e = .returned (.int .i64 s) ∧ Below z.w.heap.size z.w w' from hs ▸ slope_is _ _ (by assumption) (by assumption) z.w))
          rw [hs] at hsb
          have hm1 : IntKind.i64.wrap (2 * s) = 2 * s := IntWalk.i64_in _ (by omega)
          have hm2 : wrap64 (2 * s) = 2 * s := (wrap_same _).trans hm1
          obtain ⟨r, hr⟩ : ∃ r, IntKind.i64.wrap (o + 2 * s) = r := ⟨_, rfl⟩
          have hrw : wrap64 (o + 2 * s) = r := (wrap_same _).trans hr
          have HAD := Lib.hid (show (ys).set d r = addAt (ys) d (2 * slopeF bnum bden) by unfold addAt; rw [ho, hs, hr])
          clear ho hs hsb
          refine wp_region_belt 12 (by kernel_rfl) (by kernel_rfl) ?_
          simp only [List.take_succ_cons, List.take_zero, List.drop_succ_cons, List.drop_zero]
          repeat (go_big_quiet_step ((first | (go_at_call 85; with_reducible exact CS.out _))))
          refine wpQuiet_nil ?_
          intro y2
          have hcu := hcx y2
          have hfu := (show y2.w.frozen? ⟨g, d, none⟩ = false from (HIU.out.next y2.2).fz d)
          go_upto_region 22 with fail
          refine wp_rebase _ (fun U2 hU u2 => ?_)
          have HBU2 := Lib.hid (show Below V.heap.size V U2 by rw [hU]; exact (below_next HBU.out y2.2).setCell HGV.out _)
          have HIU2 := Lib.hid (show IR U2 V.heap.size g ps.length (addAt (ys) d (2 * slopeF bnum bden)) by rw [hU, ← HAD.out]; exact (HIU.out.next y2.2).put d r)
          clear hU hcu hfu hcx na nc hr hrw HAD CS hm1 hm2
          go_wp2_with fail
          go_roundw
          case rel => exact ⟨k + 1, _, by omega, by go_num, below_next HBU2.out u2.2, HIU2.out.next u2.2, Lib.hid (HFX.out _ rfl)⟩
          case measure => simp [intOf]; omega
        have HFX := Lib.hid (HXN.out xs (by simp [lkSum, k0, k1, k4]))
        have z0 : (kind == 0) = false := beq_eq_false_iff_ne.2 k0
        have z1 : (kind == 1) = false := beq_eq_false_iff_ne.2 (fun e => k1 (.inl e))
        have z5 : (kind == 5) = false := beq_eq_false_iff_ne.2 (fun e => k1 (.inr (.inl e)))
        have z3 : (kind == 3) = false := beq_eq_false_iff_ne.2 (fun e => k1 (.inr (.inr e)))
        have z4 : (kind == 4) = false := beq_eq_false_iff_ne.2 k4
        clear k0 k1 k4 hga hwe hse hsp
        go_wp2_with fail
        go_roundw
        case rel => exact ⟨k + 1, _, by omega, by go_num, below_next HBX.out x1.2, HIX.out.next x1.2, Lib.hid HFX.out⟩
        case measure => simp [intOf]; omega
    have i4 : decide ((k : Int) < (ps.length : Int)) = true := decide_eq_true (by omega)
    have j1 : (0 : Int) ≤ (k : Int) := by omega
    have j2 : (k : Int) < (ps.length : Int) := by omega
    obtain ⟨rd, rb0, ro, rfl, hbs, hE, hrt⟩ := (HP.out.below (Nat.le_refl _) HBW.out).at hlt
    have HST := Lib.hid (gl_step (f := fun i => slopeF (pl ps i).num (pl ps i).den) (g := fun _ => 0) hlt)
    have hvo := HPO.out _ (List.getElem_mem hlt)
    rw [← pl_at hlt] at hvo
    have hsl : slopeF (pl ps k).num (pl ps k).den = slopeF (pl ps k).num (pl ps k).den := rfl
    obtain ⟨s, hs⟩ : ∃ s, slopeF (pl ps k).num (pl ps k).den = s := ⟨_, rfl⟩
    have CS := Lib.hid (fun z : World => (show Calls Tryz.prog 85 #[.int .i64 (pl ps k).num, .int .i64 (pl ps k).den] z fun e w' => e = .returned (.int .i64 s) ∧ Below z.heap.size z w' from hs ▸ slope_is _ _ hvo.1 hvo.2 z))
    rw [hs] at HST
    clear hsl hs hvo
    obtain ⟨X, hX⟩ : ∃ X, pl ps k = X := ⟨_, rfl⟩
    rw [hX] at hrt CS
    clear hX hbs
    obtain ⟨nm, kind, office, cap, LVA, lvc, level, SA, sc, start, num, den, down, delay, floor, RA, rc, rain⟩ := X
    simp only at CS
    have HRG := Lib.hid (show wr.rangeAt rb0 ro [.string nm, .int .i64 kind, .int .i64 office, .int .i64 cap, .slice LVA level.length lvc, .slice SA start.length sc, .int .i64 num, .int .i64 den, .int .i64 down, .int .i64 delay, .int .i64 floor, .slice RA rain.length rc] from hrt)
    clear hrt
    obtain ⟨xs, hxs⟩ : ∃ xs, gl ps.length (upto k (fun i => slopeF (pl ps i).num (pl ps i).den) (fun _ => 0)) = xs := ⟨_, rfl⟩
    rw [hxs] at HIR HST
    clear hxs
    have hgb := HIR.out.blk
    go_upto_region 5 with (first
      | (with_reducible refine wpList_load_g 90 _ (by with_reducible rfl) rb0 ro (by with_unfolding_all rfl) (by with_unfolding_all rfl) _ _ HRG.out Tryz.underlying90 (by with_unfolding_all rfl) (by kernel_rfl) ?_)
      | (with_reducible refine wpList_store_new (z := [.string ⟨#[]⟩, .int .i64 0, .int .i64 0, .int .i64 0, .slice none 0 0, .slice none 0 0, .int .i64 0, .int .i64 0, .int .i64 0, .int .i64 0, .int .i64 0, .slice none 0 0]) (cs := [.string nm, .int .i64 kind, .int .i64 office, .int .i64 cap, .slice LVA level.length lvc, .slice SA start.length sc, .int .i64 num, .int .i64 den, .int .i64 down, .int .i64 delay, .int .i64 floor, .slice RA rain.length rc]) 90 _ _ (by with_reducible rfl) (by with_unfolding_all rfl) wr.heap.size (by with_reducible rfl) _ (by with_unfolding_all rfl) (by with_unfolding_all rfl) (by with_unfolding_all rfl) (by kernel_rfl) (by with_unfolding_all rfl) ?_))
    refine wp_rebase _ (fun X hX x1 => ?_)
    have hbX : Below wr.heap.size wr X := by rw [hX]; exact bel_alloc (Below.refl _ _) _
    have HBX := Lib.hid (show Below V.heap.size V X from below_next HBW.out hbX)
    have HIX := Lib.hid (HIR.out.next hbX)
    have HN := Lib.hid (show X.rangeAt wr.heap.size 0 [.string nm, .int .i64 kind, .int .i64 office, .int .i64 cap, .slice LVA level.length lvc, .slice SA start.length sc, .int .i64 num, .int .i64 den, .int .i64 down, .int .i64 delay, .int .i64 floor, .slice RA rain.length rc] by rw [hX]; exact range_new wr 90 [.string nm, .int .i64 kind, .int .i64 office, .int .i64 cap, .slice LVA level.length lvc, .slice SA start.length sc, .int .i64 num, .int .i64 den, .int .i64 down, .int .i64 delay, .int .i64 floor, .slice RA rain.length rc])
    obtain ⟨nb, hnb⟩ : ∃ n, wr.heap.size = n := ⟨_, rfl⟩
    rw [hnb] at HN ⊢
    have HGV := Lib.hid hgb.1
    clear hX hnb hbX HRG hE HIR HBW hgb
    have n6 := fun z : BelW X => (show z.w.cell? ⟨nb, 6, none⟩ = some (.int .i64 num) from BelW.range HN.out z 6 _ rfl)
    have n7 := fun z : BelW X => (show z.w.cell? ⟨nb, 7, none⟩ = some (.int .i64 den) from BelW.range HN.out z 7 _ rfl)
    have CB := Lib.hid (fun z : BelW X => bel_of (x := z) (CS.out z.w))
    have hfz := fun z : BelW X => (show z.w.frozen? ⟨g, k, none⟩ = false from (HIX.out.next z.2).fz k)
    have hcl := fun z : BelW X => (show z.w.cell? ⟨g, k, none⟩ = some (.int .i64 (gi xs k)) from (HIX.out.next z.2).cellq hlt)
    go_wp2_with (first | (go_at_call 85; (with_reducible refine (CB.out _).mono ?_); rintro e w2 ⟨rfl, z, rfl⟩))
    go_roundw
    case rel => exact ⟨k + 1, by omega, by go_num, (below_next HBX.out z.2).setCell HGV.out _, by rw [← HST.out]; exact (HIX.out.next z.2).put k s⟩
    case measure => simp [intOf]; omega
end Go.Proofs.YtngjakahanmepaaGreatDoor
