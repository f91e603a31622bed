/- bourneref26.Of, Cell, Cells. -/
import Derived.Test.YtafnmaojpheppaaCells26
namespace Go.Proofs.Ytafnmaojpheppaa
open Go.RowKit
set_option linter.unusedVariables false
set_option linter.unusedSimpArgs false

set_option maxHeartbeats 16000000 in
set_option maxRecDepth 100000 in
theorem of26_any (GA : Option Addr) (gc : Nat) (G : List Gg) (cn : Int) (d0 d1 d3 d4 d5 d7 d8 d9 d10 : Value) (hgn : G.length ≤ 9223372036854775807) (g hr lo hi : Int) (i : Nat) (w : World) (hG : Rd w GA (ggCells G)) :
    Calls Try.prog 19 #[.agg #[d0, d1, .int .i64 cn, d3, d4, d5, .slice GA G.length gc, d7, d8, d9, d10], .agg #[.int .i64 g, .int .i64 hr, .int .i64 lo, .int .i64 hi], .int .i64 (i : Int)] w fun e w' => e = .returned (.bool (decide (ofR G ⟨g, hr, lo, hi⟩ i))) ∧ Below w.heap.size w w' := by
  have HG := Lib.hid hG
  clear hG
  by_cases d1' : g < 0
  · have t1 : decide (g < 0) = true := decide_eq_true d1'
    rw [show decide (ofR G ⟨g, hr, lo, hi⟩ i) = false from decide_eq_false (fun h => by have h2 : 0 ≤ g := h.1; omega)]
    clear d1'
    go_enter Try.func19, Try.ntmps19
    go_wp2_with fail
    go_ret
    exact ⟨rfl, by go_grown⟩
  have t1 : decide (g < 0) = false := decide_eq_false d1'
  obtain ⟨q, rfl⟩ := Int.eq_ofNat_of_zero_le (show 0 ≤ g by omega)
  by_cases d2 : q < G.length
  case neg =>
    have t2 : decide ((G.length : Int) ≤ (q : Int)) = true := decide_eq_true (by omega)
    rw [show decide (ofR G ⟨(q : Int), hr, lo, hi⟩ i) = false from decide_eq_false (fun h => by have h2 : (q : Int) < (G.length : Int) := h.2.1; omega)]
    clear d1'
    go_enter Try.func19, Try.ntmps19
    go_wp2_with fail
    go_ret
    exact ⟨rfl, by go_grown⟩
  have t2 : decide ((G.length : Int) ≤ (q : Int)) = false := decide_eq_false (by omega)
  have j5 : (0 : Int) ≤ (q : Int) := by omega
  have j6 : (q : Int) < (G.length : Int) := by omega
  have hO : ofR G ⟨(q : Int), hr, lo, hi⟩ i ↔ (gg G q).kind = 1 ∧ (gg G q).tgt = (i : Int) := ⟨fun h => h.2.2, fun h => ⟨j5, j6, h.1, h.2⟩⟩
  obtain ⟨gd, gb, go, rfl, hbs, hE2, hgg⟩ := HG.out.gauge d2
  obtain ⟨gv, hgv⟩ : ∃ x, gg G q = x := ⟨_, rfl⟩
  rw [hgv] at hgg hO
  clear hgv
  obtain ⟨gnm, gk, gt, ge, gd5⟩ := gv
  have hO2 : ofR G ⟨(q : Int), hr, lo, hi⟩ i ↔ gk = 1 ∧ gt = (i : Int) := hO
  have e1 : w.cell? ⟨gb, go + 1, none⟩ = some (.int .i64 gk) := hgg 1 _ rfl
  have e2 : w.cell? ⟨gb, go + 2, none⟩ = some (.int .i64 gt) := hgg 2 _ rfl
  have HE := Lib.hid (And.intro e1 e2)
  by_cases d4 : gk = 1
  case neg =>
    have t4 : (gk == 1) = false := beq_eq_false_iff_ne.2 d4
    rw [show decide (ofR G ⟨(q : Int), hr, lo, hi⟩ i) = false from decide_eq_false (fun h => d4 (hO2.1 h).1)]
    clear d1' d4 hO hO2 e1 e2 hgg
    go_enter Try.func19, Try.ntmps19
    go_upto_region 1 with fail
    refine wp_rebase _ (fun V hV x => ?_)
    have HB := Lib.hid (show Below w.heap.size w V by rw [hV]; exact bel_alloc (bel_alloc (Below.refl _ _) _) _)
    have c6 := BelW.cells (show V.cell? ⟨w.heap.size, 6, none⟩ = some (.slice (some gd) G.length gc) by rw [hV]; exact cell_alloc (by rw [World.cell?_alloc_at _ _ _ _ rfl]; rfl) _) x
    have c0 := BelW.cells (show V.cell? ⟨w.heap.size + 1, 0, none⟩ = some (.int .i64 (q : Int)) by rw [hV, World.cell?_alloc_at _ _ _ _ (by rw [World.size_alloc])]; rfl) x
    have e1 := BelW.cells HE.out.1 (⟨x.w, below_next HB.out x.2⟩ : BelW w)
    have e1' : x.w.cell? ⟨gb, go + 1, none⟩ = some (.int .i64 gk) := e1
    have HX := Lib.hid (show Below w.heap.size w x.w from below_next HB.out x.2)
    clear hV e1
    go_wp2_with fail
    go_ret
    exact ⟨rfl, HX.out⟩
  have t4 : (gk == 1) = true := beq_iff_eq.2 d4
  have hO3 : decide (ofR G ⟨(q : Int), hr, lo, hi⟩ i) = (gt == (i : Int)) := by
    rw [Bool.eq_iff_iff, decide_eq_true_iff, hO2, beq_iff_eq]
    exact ⟨fun h => h.2, fun h => ⟨d4, h⟩⟩
  rw [hO3]
  clear d1' d4 hO hO2 hO3 e1 e2 hgg
  go_enter Try.func19, Try.ntmps19
  go_upto_region 1 with fail
  refine wp_rebase _ (fun V hV x => ?_)
  have HB := Lib.hid (show Below w.heap.size w V by rw [hV]; exact bel_alloc (bel_alloc (Below.refl _ _) _) _)
  have c6 := BelW.cells (show V.cell? ⟨w.heap.size, 6, none⟩ = some (.slice (some gd) G.length gc) by rw [hV]; exact cell_alloc (by rw [World.cell?_alloc_at _ _ _ _ rfl]; rfl) _) x
  have c0 := BelW.cells (show V.cell? ⟨w.heap.size + 1, 0, none⟩ = some (.int .i64 (q : Int)) by rw [hV, World.cell?_alloc_at _ _ _ _ (by rw [World.size_alloc])]; rfl) x
  have e1 := BelW.cells HE.out.1 (⟨x.w, below_next HB.out x.2⟩ : BelW w)
  have e1' : x.w.cell? ⟨gb, go + 1, none⟩ = some (.int .i64 gk) := e1
  have e2 := BelW.cells HE.out.2 (⟨x.w, below_next HB.out x.2⟩ : BelW w)
  have e2' : x.w.cell? ⟨gb, go + 2, none⟩ = some (.int .i64 gt) := e2
  have HX := Lib.hid (show Below w.heap.size w x.w from below_next HB.out x.2)
  clear hV e1 e2
  go_wp2_with fail
  go_ret
  exact ⟨rfl, HX.out⟩

def CeR (V : World) (bs : Nat) (G : List Gg) (radar : List Int) (p : Int) (rs : List Rg) (i : Nat) (s13 : Value) (wr : World) : Prop := ∃ k : Nat, k ≤ rs.length ∧ s13 = .int .i64 (k : Int) ∧ ∃ y : BelW V, wr = y.w ∧ TwoBox y.w bs (cellAt G radar p (rs.take k) i)
theorem decide_of {a : Prop} [Decidable a] {b : Bool} (h : decide a = b) : a ↔ b = true := by subst h; exact (decide_eq_true_iff).symm

set_option maxHeartbeats 64000000 in
set_option maxRecDepth 100000 in
theorem cell26_in (GA RA SA : Option Addr) (gc rc sc : Nat) (G : List Gg) (radar : List Int) (rs : List Rg) (cn p : Int) (i : Nat) (d0 d1 d3 d4 d5 d7 d8 d9 d10 : Value) (hrn : radar.length ≤ 9223372036854775807) (hsn : rs.length ≤ 9223372036854775807) (hgn : G.length ≤ 9223372036854775807) (hin : i ≤ 1000) (hp : Fit p) (w : World)
    (hri : i < radar.length) (hG : Rd w GA (ggCells G)) (hR : Rd w RA (ints radar)) (hS : Rd w SA (rgCells rs)) :
    Calls Try.prog 29 #[.agg #[d0, d1, .int .i64 cn, d3, d4, d5, .slice GA G.length gc, d7, d8, d9, d10], .slice RA radar.length rc, .int .i64 p, .slice SA rs.length sc, .int .i64 (i : Int)] w fun e w' => e = .returned (.agg #[.int .i64 (cellAt G radar p rs i).1, .int .i64 (cellAt G radar p rs i).2]) ∧ Below w.heap.size w w' := by
  obtain ⟨T, hT⟩ : ∃ S, cellAt G radar p rs i = S := ⟨_, rfl⟩
  rw [hT]
  have HT := Lib.hid hT
  clear hT
  obtain ⟨tl, th⟩ := T
  go_enter Try.func29, Try.ntmps29
  go_upto_region 1 with fail
  refine wp_rebase _ (fun V hV x0 => ?_)
  have HB0 := Lib.hid (show Below w.heap.size w V by rw [hV]; exact bel_alloc (bel_alloc (Below.refl _ _) _) _)
  have HBAS := Lib.hid (show V.rangeAt w.heap.size 0 [d0, d1, .int .i64 cn, d3, d4, d5, .slice GA G.length gc, d7, d8, d9, d10] by rw [hV]; exact World.rangeAt_alloc (range_new _ _ [d0, d1, .int .i64 cn, d3, d4, d5, .slice GA G.length gc, d7, d8, d9, d10]) _)
  have HRES := Lib.hid (show TwoBox V (w.heap.size + 1) (0, 0) by
    rw [hV]
    have h2 := TwoBox.new (w.alloc (.cells #[d0, d1, .int .i64 cn, d3, d4, d5, .slice GA G.length gc, d7, d8, d9, d10] 31)) (0, 0) 40
    rw [World.size_alloc] at h2
    exact h2)
  have HG := Lib.hid (hG.below (Nat.le_refl _) HB0.out)
  have HR := Lib.hid (hR.below (Nat.le_refl _) HB0.out)
  have HS := Lib.hid (hS.below (Nat.le_refl _) HB0.out)
  have HPF := Lib.hid hp
  have CR := Lib.hid (fun z : BelW V => bel_of (refrad_any (gi radar i) p hp z.w))
  have HRAD := Lib.hid (show cellAt G radar p [] i = (radLo (gi radar i) p, radHi (gi radar i) p) from rfl)
  obtain ⟨rl, hrl⟩ : ∃ x, radLo (gi radar i) p = x := ⟨_, rfl⟩
  obtain ⟨rh, hrh⟩ : ∃ x, radHi (gi radar i) p = x := ⟨_, rfl⟩
  rw [hrl, hrh] at CR HRAD
  clear hV hG hR hS hp hrl hrh
  have j1 : (0 : Int) ≤ (i : Int) := by omega
  have t1 : decide ((i : Int) < (radar.length : Int)) = true := decide_eq_true (by omega)
  have j3 : (i : Int) < (radar.length : Int) := by omega
  obtain ⟨rd, hrd, e1⟩ := rd_row (HR.out.bel x0) hri
  subst hrd
  obtain ⟨v, hv⟩ : ∃ v, gi radar i = v := ⟨_, rfl⟩
  rw [hv] at e1 CR
  clear hv
  go_upto_region 5 with (first | (go_at_call 40; (with_reducible refine (CR.out _).mono ?_); rintro e w' ⟨rfl, z, rfl⟩))
  refine wp_named _ (fun W hW => ?_)
  have HTB := Lib.hid (show TwoBox W z.w.heap.size (cellAt G radar p (rs.take 0) i) by
    rw [hW, List.take_zero, HRAD.out]
    exact TwoBox.new z.w (rl, rh) _)
  have HBW := Lib.hid (show Below V.heap.size V W by rw [hW]; exact bel_alloc z.2 _)
  have HZ := Lib.hid (show V.heap.size ≤ z.w.heap.size from z.2.size)
  obtain ⟨bs, hbs⟩ : ∃ b, z.w.heap.size = b := ⟨_, rfl⟩
  rw [hbs] at HTB HZ ⊢
  clear hW hbs z CR
  go_wp2_with fail
  go_loopw [13] (fun s13 wr => CeR V bs G radar p rs i s13 wr) (fun i _ => rs.length - (intOf i).toNat)
  case atStart => exact ⟨0, by omega, rfl, ⟨W, HBW.out⟩, rfl, HTB.out⟩
  case round =>
    obtain ⟨m, hm, rfl, y, rfl, hI⟩ := hrel
    by_cases hlm : m < rs.length
    · have i5 : decide ((m : Int) < (rs.length : Int)) = true := decide_eq_true (by omega)
      have m1 : (0 : Int) ≤ (m : Int) := by omega
      have m2 : (m : Int) < (rs.length : Int) := by omega
      have HI0 := Lib.hid hI
      clear hI
      go_upto_region 8 with fail
      refine wp_rebase _ (fun V8 hV8 x8 => ?_)
      have HI := Lib.hid (show TwoBox V8 bs (cellAt G radar p (rs.take m) i) by rw [hV8]; exact HI0.out)
      have HB8 := Lib.hid (show Below V.heap.size V V8 by rw [hV8]; exact y.2)
      obtain ⟨sd, sb, so, rfl, hbs2, hE, hrg⟩ := (HS.out.below (Nat.le_refl _) HB8.out).reading hlm
      have hst := cellAt_take G radar p hlm i
      obtain ⟨r, hr⟩ : ∃ r, rg rs m = r := ⟨_, rfl⟩
      rw [hr] at hrg hst
      clear hr
      obtain ⟨rg0, rhr, rlo, rhi⟩ := r
      have COf := Lib.hid (fun z : BelW V8 => bel_of (of26_any GA gc G cn d0 d1 d3 d4 d5 d7 d8 d9 d10 hgn rg0 rhr rlo rhi i z.w ((HG.out.below (Nat.le_refl _) HB8.out).bel z)))
      have CRt := Lib.hid (fun z : BelW V8 => bel_of (refright_any rlo rhi z.w))
      obtain ⟨bo, hbo⟩ : ∃ b, decide (ofR G ⟨rg0, rhr, rlo, rhi⟩ i) = b := ⟨_, rfl⟩
      obtain ⟨br, hbr⟩ : ∃ b, decide (rlo ≤ rhi) = b := ⟨_, rfl⟩
      rw [hbo] at COf
      rw [hbr] at CRt
      have hBO := decide_of hbo
      have hBR := decide_of hbr
      obtain ⟨c, hc⟩ : ∃ c, cellAt G radar p (rs.take m) i = c := ⟨_, rfl⟩
      rw [hc] at HI hst
      obtain ⟨cl, ch⟩ := c
      have HSTEP := Lib.hid (show cellAt G radar p (rs.take (m + 1)) i = if bo = true ∧ br = true ∧ max cl rlo ≤ min ch rhi then (max cl rlo, min ch rhi) else (cl, ch) by
        rw [hst]
        unfold cellStep
        by_cases h : bo = true ∧ br = true ∧ max cl rlo ≤ min ch rhi
        · rw [if_pos h, if_pos ⟨hBO.2 h.1, hBR.2 h.2.1, h.2.2⟩]
        · rw [if_neg h, if_neg (fun h' => h ⟨hBO.1 h'.1, hBR.1 h'.2.1, h'.2.2⟩)])
      have HRX := Lib.hid (show V8.rangeAt w.heap.size 0 [d0, d1, .int .i64 cn, d3, d4, d5, .slice GA G.length gc, d7, d8, d9, d10] from BelW.range HBAS.out ⟨V8, HB8.out⟩)
      have e0 := fun z : BelW V8 => (show z.w.cell? ⟨sb, so, none⟩ = some (.int .i64 rg0) from BelW.cells (hrg 0 _ rfl) z)
      have e1 := fun z : BelW V8 => (show z.w.cell? ⟨sb, so + 1, none⟩ = some (.int .i64 rhr) from BelW.cells (hrg 1 _ rfl) z)
      have e2 := fun z : BelW V8 => (show z.w.cell? ⟨sb, so + 2, none⟩ = some (.int .i64 rlo) from BelW.cells (hrg 2 _ rfl) z)
      have e3 := fun z : BelW V8 => (show z.w.cell? ⟨sb, so + 3, none⟩ = some (.int .i64 rhi) from BelW.cells (hrg 3 _ rfl) z)
      have f0 := fun z : BelW V8 => (show z.w.cell? ⟨bs, 0, none⟩ = some (.int .i64 cl) from (HI.out.bel z).lo)
      have f1 := fun z : BelW V8 => (show z.w.cell? ⟨bs, 1, none⟩ = some (.int .i64 ch) from (HI.out.bel z).hi)
      clear hV8 HI0 hbs2 hrg hst hbo hbr hc hBO hBR
      refine wp_region_belx (by kernel_rfl) (by kernel_rfl) ?_
      repeat (first
        | (with_reducible refine wpQuiet_load_g 31 _ (by with_reducible rfl) _ _ (by with_unfolding_all rfl) (by with_unfolding_all rfl) _ _ (rangeX HRX.out) Try.underlying31 (by with_unfolding_all rfl) (by kernel_rfl) ?_; simp only [Act.put, List.setIfInBounds_toArray, List.set_cons_succ, List.set_cons_zero])
        | go_big_quiet_step ((first | (go_at_call 19; with_reducible exact COf.out _))))
      refine wpQuiet_nil ?_
      intro z8
      go_upto_region 10 with (first | (go_at_call 41; (with_reducible refine (CRt.out _).mono ?_); rintro e w' ⟨rfl, z9, rfl⟩))
      have HS0 := Lib.hid (show ∃ z : BelW V8, z9.w.drew = z.w from ⟨⟨_, z9.2.drew⟩, rfl⟩)
      have CM := Lib.hid (fun z : World => refmeet_any cl ch rlo rhi z)
      clear COf CRt HRX
      by_cases d7 : max cl rlo ≤ min ch rhi
      · rw [if_pos d7] at CM
        refine wp_region_tail 12 (fun w' => ∃ z : BelW V8, w' = z.w) (by kernel_rfl) (by kernel_rfl) HS0.out ?_
        refine wpK_take (i := 0) (v := ?v0) (by kernel_rfl) rfl (by omega) (by kernel_rfl) (by kernel_rfl) (fun _ _ _ h => h) (Or.inl ⟨by rfl, ?y0⟩) HS0.out ?_
        case y0 => intro w1 hS; obtain ⟨z, rfl⟩ := hS; (go_simp <;> with_reducible rfl)
        simp only [Act.put, List.setIfInBounds_toArray, List.set_cons_zero, List.set_cons_succ]
        refine wpK_take (i := 1) (v := ?v1) (by kernel_rfl) rfl (by omega) (by kernel_rfl) (by kernel_rfl) (fun _ _ _ h => h) (Or.inl ⟨by rfl, ?y1⟩) HS0.out ?_
        case y1 => intro w1 hS; (go_simp <;> with_reducible rfl)
        simp only [Act.put, List.setIfInBounds_toArray, List.set_cons_zero, List.set_cons_succ]
        refine wpK_take (i := 2) (v := ?v2) (by kernel_rfl) rfl (by omega) (by kernel_rfl) (by kernel_rfl) (fun _ _ _ h => h) (Or.inl ⟨by rfl, ?y2⟩) HS0.out ?_
        case y2 => intro w1 hS; (go_simp <;> with_reducible rfl)
        simp only [Act.put, List.setIfInBounds_toArray, List.set_cons_zero, List.set_cons_succ]
        refine wpK_take (i := 3) (v := ?v3) (by kernel_rfl) rfl (by omega) (by kernel_rfl) (by kernel_rfl) (fun _ _ _ h => h) (Or.inl ⟨by rfl, ?y3⟩) HS0.out ?_
        case y3 => intro w1 hS; (go_simp <;> with_reducible rfl)
        simp only [Act.put, List.setIfInBounds_toArray, List.set_cons_zero, List.set_cons_succ]
        refine wpK_take (i := 4) (v := ?v4) (by kernel_rfl) rfl (by omega) (by kernel_rfl) (by kernel_rfl) (fun _ _ _ h => h) (Or.inl ⟨by rfl, ?y4⟩) HS0.out ?_
        case y4 => intro w1 hS; (go_simp <;> with_reducible rfl)
        simp only [Act.put, List.setIfInBounds_toArray, List.set_cons_zero, List.set_cons_succ]
        refine wpK_take (i := 5) (v := ?v5) (by kernel_rfl) rfl (by omega) (by kernel_rfl) (by kernel_rfl) (fun _ _ _ h => h) (Or.inl ⟨by rfl, ?y5⟩) HS0.out ?_
        case y5 => intro w1 hS; obtain ⟨z, rfl⟩ := hS; (go_simp <;> with_reducible rfl)
        simp only [Act.put, List.setIfInBounds_toArray, List.set_cons_zero, List.set_cons_succ]
        refine wpK_two 6 10 rfl rfl (by omega) (by omega) (by kernel_rfl) ?p7 ?p11
        case p7 =>
          go_wp2_with fail
          refine (bel_of (x := (⟨_, z9.2.drew⟩ : BelW V8)) (CM.out _)).mono ?_
          rintro e w' ⟨rfl, ya, rfl⟩
          go_wp2_with fail
          refine ⟨⟨ya, rfl⟩, ?_⟩
          refine wpK_take (i := 7) (v := .tuple #[.agg #[.int .i64 (max cl rlo), .int .i64 (min ch rhi)], .bool true]) (by kernel_rfl) rfl (by omega) (by kernel_rfl) (by kernel_rfl) (fun _ _ _ h => h) (Or.inl ⟨by rfl, ?z7⟩) ⟨ya, rfl⟩ ?_
          case z7 => intro w1 hS; (first | rfl | (go_simp <;> with_reducible rfl) | go_simp)
          simp only [Act.put, List.setIfInBounds_toArray, List.set_cons_zero, List.set_cons_succ]
          refine wpK_take (i := 8) (v := .agg #[.int .i64 (max cl rlo), .int .i64 (min ch rhi)]) (by kernel_rfl) rfl (by omega) (by kernel_rfl) (by kernel_rfl) (fun _ _ _ h => h) (Or.inl ⟨by rfl, ?z8⟩) ⟨ya, rfl⟩ ?_
          case z8 => intro w1 hS; (first | rfl | (go_simp <;> with_reducible rfl) | go_simp)
          simp only [Act.put, List.setIfInBounds_toArray, List.set_cons_zero, List.set_cons_succ]
          refine wpK_take (i := 9) (v := .bool true) (by kernel_rfl) rfl (by omega) (by kernel_rfl) (by kernel_rfl) (fun _ _ _ h => h) (Or.inl ⟨by rfl, ?z9⟩) ⟨ya, rfl⟩ ?_
          case z9 => intro w1 hS; (first | rfl | (go_simp <;> with_reducible rfl) | go_simp)
          simp only [Act.put, List.setIfInBounds_toArray, List.set_cons_zero, List.set_cons_succ]
          refine wpK_one 10 rfl (by omega) (by kernel_rfl) ?_
          go_wp2_with fail
          refine ⟨⟨⟨_, bel_alloc ya.2 _⟩, rfl⟩, ?_⟩
          have HTT := Lib.hid (TwoBox.new ya.w (0, 0) 40)
          have HBT := Lib.hid (show Below V8.heap.size V8 (ya.w.alloc (.cells #[.int .i64 0, .int .i64 0] 40)) from bel_alloc ya.2 _)
          have HGB := Lib.hid (show V8.heap.size ≤ ya.w.heap.size from ya.2.size)
          obtain ⟨bx, hbx⟩ : ∃ b, ya.w.heap.size = b := ⟨_, rfl⟩
          obtain ⟨W2, hW2⟩ : ∃ W, ya.w.alloc (.cells #[.int .i64 0, .int .i64 0] 40) = W := ⟨_, rfl⟩
          rw [hbx] at HTT HGB ⊢
          rw [hW2] at HTT HBT ⊢
          clear hbx hW2
          have r0 : W2.cell? ⟨bx, 0, none⟩ = some (.int .i64 0) := HTT.out.lo
          have r1 : W2.cell? ⟨bx, 1, none⟩ = some (.int .i64 0) := HTT.out.hi
          have r2 := HTT.out.fz
          refine wpK_one 11 rfl (by omega) (by kernel_rfl) ?_
          go_wp2_with fail
          refine ⟨⟨⟨_, (HBT.out.setCell (by exact HGB.out) _).setCell (by exact HGB.out) _⟩, rfl⟩, wpK_done (by kernel_rfl) ?_⟩
          simp only [List.drop_succ_cons, List.drop_zero]
          go_upto_region 11 with fail
          refine wp_rebase _ (fun V5 hV5 x5 => ?_)
          have HT5 := Lib.hid (show TwoBox V5 bx (max cl rlo, min ch rhi) by rw [hV5]; exact HTT.out.set (max cl rlo, min ch rhi))
          have HB5 := Lib.hid (show Below V8.heap.size V8 V5 by rw [hV5]; exact (HBT.out.setCell (by exact HGB.out) _).setCell (by exact HGB.out) _)
          have HBX := Lib.hid (show Below V.heap.size V x5.w from below_next HB8.out (below_next HB5.out x5.2))
          have HI5 := Lib.hid (show TwoBox x5.w bs (cl, ch) from HI.out.bel (⟨x5.w, below_next HB5.out x5.2⟩ : BelW V8))
          have h0 : x5.w.cell? ⟨bx, 0, none⟩ = some (.int .i64 (max cl rlo)) := (HT5.out.bel x5).lo
          have h1 : x5.w.cell? ⟨bx, 1, none⟩ = some (.int .i64 (min ch rhi)) := (HT5.out.bel x5).hi
          have h2 : x5.w.cell? ⟨bs, 0, none⟩ = some (.int .i64 cl) := HI5.out.lo
          have h3 : x5.w.cell? ⟨bs, 1, none⟩ = some (.int .i64 ch) := HI5.out.hi
          have h4 := HI5.out.fz
          have HNO := Lib.hid (show ¬ (bo = true ∧ br = true ∧ max cl rlo ≤ min ch rhi) → CeR V bs G radar p rs i (.int .i64 ((m : Int) + 1)) x5.w from fun hno => ⟨m + 1, by omega, by go_num, ⟨x5.w, HBX.out⟩, rfl, by rw [HSTEP.out, if_neg hno]; exact HI5.out⟩)
          have HYES := Lib.hid (show bo = true ∧ br = true → CeR V bs G radar p rs i (.int .i64 ((m : Int) + 1)) ((x5.w.setCell ⟨bs, 0, none⟩ (.int .i64 (max cl rlo))).setCell ⟨bs, 1, none⟩ (.int .i64 (min ch rhi))) from fun hy => ⟨m + 1, by omega, by go_num, ⟨_, (HBX.out.setCell (by exact HZ.out) _).setCell (by exact HZ.out) _⟩, rfl, by rw [HSTEP.out, if_pos ⟨hy.1, hy.2, d7⟩]; exact HI5.out.set (max cl rlo, min ch rhi)⟩)
          clear hV5 r0 r1 r2 e0 e1 e2 e3 f0 f1 hE
          cases bo
          · have HX := Lib.hid (HNO.out (fun h => by simp at h))
            go_wp2_with fail
            go_roundw
            case rel => exact HX.out
            case measure => simp [intOf]; omega
          · cases br
            · have HX := Lib.hid (HNO.out (fun h => by simp at h))
              go_wp2_with fail
              go_roundw
              case rel => exact HX.out
              case measure => simp [intOf]; omega
            · have HX := Lib.hid (HYES.out ⟨rfl, rfl⟩)
              go_wp2_with fail
              go_roundw
              case rel => exact HX.out
              case measure => simp [intOf]; omega
        case p11 =>
          go_wp2_with fail
          refine ⟨⟨⟨_, bel_alloc z9.2.drew _⟩, rfl⟩, ?_⟩
          refine wpK_one 6 rfl (by omega) (by kernel_rfl) ?_
          have HT0 := Lib.hid (TwoBox.new z9.w.drew (0, 0) 40)
          have HBT0 := Lib.hid (show Below V8.heap.size V8 (z9.w.drew.alloc (.cells #[.int .i64 0, .int .i64 0] 40)) from bel_alloc z9.2.drew _)
          have HGB := Lib.hid (show V8.heap.size ≤ z9.w.drew.heap.size from z9.2.size)
          go_wp2_with fail
          refine (CM.out _).mono ?_
          rintro e W2 ⟨rfl, hb⟩
          have HTT := Lib.hid (show TwoBox W2 z9.w.drew.heap.size (0, 0) from HT0.out.bel ⟨W2, hb⟩)
          have HBT := Lib.hid (below_next HBT0.out hb)
          clear hb HT0 HBT0
          go_wp2_with fail
          refine ⟨⟨⟨W2, HBT.out⟩, rfl⟩, ?_⟩
          have hbx0 : z9.w.drew.heap.size = z9.w.heap.size := rfl
          rw [hbx0] at HTT HGB
          obtain ⟨bx, hbx⟩ : ∃ b, z9.w.heap.size = b := ⟨_, rfl⟩
          rw [hbx] at HTT HGB ⊢
          clear hbx hbx0
          refine wpK_take (i := 7) (v := .tuple #[.agg #[.int .i64 (max cl rlo), .int .i64 (min ch rhi)], .bool true]) (by kernel_rfl) rfl (by omega) (by kernel_rfl) (by kernel_rfl) (fun _ _ _ h => h) (Or.inl ⟨by rfl, ?z7⟩) ⟨⟨W2, HBT.out⟩, rfl⟩ ?_
          case z7 => intro w1 hS; (first | rfl | (go_simp <;> with_reducible rfl) | go_simp)
          simp only [Act.put, List.setIfInBounds_toArray, List.set_cons_zero, List.set_cons_succ]
          refine wpK_take (i := 8) (v := .agg #[.int .i64 (max cl rlo), .int .i64 (min ch rhi)]) (by kernel_rfl) rfl (by omega) (by kernel_rfl) (by kernel_rfl) (fun _ _ _ h => h) (Or.inl ⟨by rfl, ?z8⟩) ⟨⟨W2, HBT.out⟩, rfl⟩ ?_
          case z8 => intro w1 hS; (first | rfl | (go_simp <;> with_reducible rfl) | go_simp)
          simp only [Act.put, List.setIfInBounds_toArray, List.set_cons_zero, List.set_cons_succ]
          refine wpK_take (i := 9) (v := .bool true) (by kernel_rfl) rfl (by omega) (by kernel_rfl) (by kernel_rfl) (fun _ _ _ h => h) (Or.inl ⟨by rfl, ?z9⟩) ⟨⟨W2, HBT.out⟩, rfl⟩ ?_
          case z9 => intro w1 hS; (first | rfl | (go_simp <;> with_reducible rfl) | go_simp)
          simp only [Act.put, List.setIfInBounds_toArray, List.set_cons_zero, List.set_cons_succ]
          have r0 : W2.cell? ⟨bx, 0, none⟩ = some (.int .i64 0) := HTT.out.lo
          have r1 : W2.cell? ⟨bx, 1, none⟩ = some (.int .i64 0) := HTT.out.hi
          have r2 := HTT.out.fz
          refine wpK_one 11 rfl (by omega) (by kernel_rfl) ?_
          go_wp2_with fail
          refine ⟨⟨⟨_, (HBT.out.setCell (by exact HGB.out) _).setCell (by exact HGB.out) _⟩, rfl⟩, wpK_done (by kernel_rfl) ?_⟩
          simp only [List.drop_succ_cons, List.drop_zero]
          go_upto_region 11 with fail
          refine wp_rebase _ (fun V5 hV5 x5 => ?_)
          have HT5 := Lib.hid (show TwoBox V5 bx (max cl rlo, min ch rhi) by rw [hV5]; exact HTT.out.set (max cl rlo, min ch rhi))
          have HB5 := Lib.hid (show Below V8.heap.size V8 V5 by rw [hV5]; exact (HBT.out.setCell (by exact HGB.out) _).setCell (by exact HGB.out) _)
          have HBX := Lib.hid (show Below V.heap.size V x5.w from below_next HB8.out (below_next HB5.out x5.2))
          have HI5 := Lib.hid (show TwoBox x5.w bs (cl, ch) from HI.out.bel (⟨x5.w, below_next HB5.out x5.2⟩ : BelW V8))
          have h0 : x5.w.cell? ⟨bx, 0, none⟩ = some (.int .i64 (max cl rlo)) := (HT5.out.bel x5).lo
          have h1 : x5.w.cell? ⟨bx, 1, none⟩ = some (.int .i64 (min ch rhi)) := (HT5.out.bel x5).hi
          have h2 : x5.w.cell? ⟨bs, 0, none⟩ = some (.int .i64 cl) := HI5.out.lo
          have h3 : x5.w.cell? ⟨bs, 1, none⟩ = some (.int .i64 ch) := HI5.out.hi
          have h4 := HI5.out.fz
          have HNO := Lib.hid (show ¬ (bo = true ∧ br = true ∧ max cl rlo ≤ min ch rhi) → CeR V bs G radar p rs i (.int .i64 ((m : Int) + 1)) x5.w from fun hno => ⟨m + 1, by omega, by go_num, ⟨x5.w, HBX.out⟩, rfl, by rw [HSTEP.out, if_neg hno]; exact HI5.out⟩)
          have HYES := Lib.hid (show bo = true ∧ br = true → CeR V bs G radar p rs i (.int .i64 ((m : Int) + 1)) ((x5.w.setCell ⟨bs, 0, none⟩ (.int .i64 (max cl rlo))).setCell ⟨bs, 1, none⟩ (.int .i64 (min ch rhi))) from fun hy => ⟨m + 1, by omega, by go_num, ⟨_, (HBX.out.setCell (by exact HZ.out) _).setCell (by exact HZ.out) _⟩, rfl, by rw [HSTEP.out, if_pos ⟨hy.1, hy.2, d7⟩]; exact HI5.out.set (max cl rlo, min ch rhi)⟩)
          clear hV5 r0 r1 r2 e0 e1 e2 e3 f0 f1 hE
          cases bo
          · have HX := Lib.hid (HNO.out (fun h => by simp at h))
            go_wp2_with fail
            go_roundw
            case rel => exact HX.out
            case measure => simp [intOf]; omega
          · cases br
            · have HX := Lib.hid (HNO.out (fun h => by simp at h))
              go_wp2_with fail
              go_roundw
              case rel => exact HX.out
              case measure => simp [intOf]; omega
            · have HX := Lib.hid (HYES.out ⟨rfl, rfl⟩)
              go_wp2_with fail
              go_roundw
              case rel => exact HX.out
              case measure => simp [intOf]; omega
      · rw [if_neg d7] at CM
        refine wp_region_tail 12 (fun w' => ∃ z : BelW V8, w' = z.w) (by kernel_rfl) (by kernel_rfl) HS0.out ?_
        refine wpK_take (i := 0) (v := ?v0) (by kernel_rfl) rfl (by omega) (by kernel_rfl) (by kernel_rfl) (fun _ _ _ h => h) (Or.inl ⟨by rfl, ?y0⟩) HS0.out ?_
        case y0 => intro w1 hS; obtain ⟨z, rfl⟩ := hS; (go_simp <;> with_reducible rfl)
        simp only [Act.put, List.setIfInBounds_toArray, List.set_cons_zero, List.set_cons_succ]
        refine wpK_take (i := 1) (v := ?v1) (by kernel_rfl) rfl (by omega) (by kernel_rfl) (by kernel_rfl) (fun _ _ _ h => h) (Or.inl ⟨by rfl, ?y1⟩) HS0.out ?_
        case y1 => intro w1 hS; (go_simp <;> with_reducible rfl)
        simp only [Act.put, List.setIfInBounds_toArray, List.set_cons_zero, List.set_cons_succ]
        refine wpK_take (i := 2) (v := ?v2) (by kernel_rfl) rfl (by omega) (by kernel_rfl) (by kernel_rfl) (fun _ _ _ h => h) (Or.inl ⟨by rfl, ?y2⟩) HS0.out ?_
        case y2 => intro w1 hS; (go_simp <;> with_reducible rfl)
        simp only [Act.put, List.setIfInBounds_toArray, List.set_cons_zero, List.set_cons_succ]
        refine wpK_take (i := 3) (v := ?v3) (by kernel_rfl) rfl (by omega) (by kernel_rfl) (by kernel_rfl) (fun _ _ _ h => h) (Or.inl ⟨by rfl, ?y3⟩) HS0.out ?_
        case y3 => intro w1 hS; (go_simp <;> with_reducible rfl)
        simp only [Act.put, List.setIfInBounds_toArray, List.set_cons_zero, List.set_cons_succ]
        refine wpK_take (i := 4) (v := ?v4) (by kernel_rfl) rfl (by omega) (by kernel_rfl) (by kernel_rfl) (fun _ _ _ h => h) (Or.inl ⟨by rfl, ?y4⟩) HS0.out ?_
        case y4 => intro w1 hS; (go_simp <;> with_reducible rfl)
        simp only [Act.put, List.setIfInBounds_toArray, List.set_cons_zero, List.set_cons_succ]
        refine wpK_take (i := 5) (v := ?v5) (by kernel_rfl) rfl (by omega) (by kernel_rfl) (by kernel_rfl) (fun _ _ _ h => h) (Or.inl ⟨by rfl, ?y5⟩) HS0.out ?_
        case y5 => intro w1 hS; obtain ⟨z, rfl⟩ := hS; (go_simp <;> with_reducible rfl)
        simp only [Act.put, List.setIfInBounds_toArray, List.set_cons_zero, List.set_cons_succ]
        refine wpK_two 6 10 rfl rfl (by omega) (by omega) (by kernel_rfl) ?p7 ?p11
        case p7 =>
          go_wp2_with fail
          refine (bel_of (x := (⟨_, z9.2.drew⟩ : BelW V8)) (CM.out _)).mono ?_
          rintro e w' ⟨rfl, ya, rfl⟩
          go_wp2_with fail
          refine ⟨⟨ya, rfl⟩, ?_⟩
          refine wpK_take (i := 7) (v := .tuple #[.agg #[.int .i64 (0), .int .i64 (0)], .bool false]) (by kernel_rfl) rfl (by omega) (by kernel_rfl) (by kernel_rfl) (fun _ _ _ h => h) (Or.inl ⟨by rfl, ?z7⟩) ⟨ya, rfl⟩ ?_
          case z7 => intro w1 hS; (first | rfl | (go_simp <;> with_reducible rfl) | go_simp)
          simp only [Act.put, List.setIfInBounds_toArray, List.set_cons_zero, List.set_cons_succ]
          refine wpK_take (i := 8) (v := .agg #[.int .i64 (0), .int .i64 (0)]) (by kernel_rfl) rfl (by omega) (by kernel_rfl) (by kernel_rfl) (fun _ _ _ h => h) (Or.inl ⟨by rfl, ?z8⟩) ⟨ya, rfl⟩ ?_
          case z8 => intro w1 hS; (first | rfl | (go_simp <;> with_reducible rfl) | go_simp)
          simp only [Act.put, List.setIfInBounds_toArray, List.set_cons_zero, List.set_cons_succ]
          refine wpK_take (i := 9) (v := .bool false) (by kernel_rfl) rfl (by omega) (by kernel_rfl) (by kernel_rfl) (fun _ _ _ h => h) (Or.inl ⟨by rfl, ?z9⟩) ⟨ya, rfl⟩ ?_
          case z9 => intro w1 hS; (first | rfl | (go_simp <;> with_reducible rfl) | go_simp)
          simp only [Act.put, List.setIfInBounds_toArray, List.set_cons_zero, List.set_cons_succ]
          refine wpK_one 10 rfl (by omega) (by kernel_rfl) ?_
          go_wp2_with fail
          refine ⟨⟨⟨_, bel_alloc ya.2 _⟩, rfl⟩, ?_⟩
          have HTT := Lib.hid (TwoBox.new ya.w (0, 0) 40)
          have HBT := Lib.hid (show Below V8.heap.size V8 (ya.w.alloc (.cells #[.int .i64 0, .int .i64 0] 40)) from bel_alloc ya.2 _)
          have HGB := Lib.hid (show V8.heap.size ≤ ya.w.heap.size from ya.2.size)
          obtain ⟨bx, hbx⟩ : ∃ b, ya.w.heap.size = b := ⟨_, rfl⟩
          obtain ⟨W2, hW2⟩ : ∃ W, ya.w.alloc (.cells #[.int .i64 0, .int .i64 0] 40) = W := ⟨_, rfl⟩
          rw [hbx] at HTT HGB ⊢
          rw [hW2] at HTT HBT ⊢
          clear hbx hW2
          have r0 : W2.cell? ⟨bx, 0, none⟩ = some (.int .i64 0) := HTT.out.lo
          have r1 : W2.cell? ⟨bx, 1, none⟩ = some (.int .i64 0) := HTT.out.hi
          have r2 := HTT.out.fz
          refine wpK_one 11 rfl (by omega) (by kernel_rfl) ?_
          go_wp2_with fail
          refine ⟨⟨⟨_, (HBT.out.setCell (by exact HGB.out) _).setCell (by exact HGB.out) _⟩, rfl⟩, wpK_done (by kernel_rfl) ?_⟩
          simp only [List.drop_succ_cons, List.drop_zero]
          go_upto_region 11 with fail
          refine wp_rebase _ (fun V5 hV5 x5 => ?_)
          have HT5 := Lib.hid (show TwoBox V5 bx (0, 0) by rw [hV5]; exact HTT.out.set (0, 0))
          have HB5 := Lib.hid (show Below V8.heap.size V8 V5 by rw [hV5]; exact (HBT.out.setCell (by exact HGB.out) _).setCell (by exact HGB.out) _)
          have HBX := Lib.hid (show Below V.heap.size V x5.w from below_next HB8.out (below_next HB5.out x5.2))
          have HI5 := Lib.hid (show TwoBox x5.w bs (cl, ch) from HI.out.bel (⟨x5.w, below_next HB5.out x5.2⟩ : BelW V8))
          have h0 : x5.w.cell? ⟨bx, 0, none⟩ = some (.int .i64 (0)) := (HT5.out.bel x5).lo
          have h1 : x5.w.cell? ⟨bx, 1, none⟩ = some (.int .i64 (0)) := (HT5.out.bel x5).hi
          have h2 : x5.w.cell? ⟨bs, 0, none⟩ = some (.int .i64 cl) := HI5.out.lo
          have h3 : x5.w.cell? ⟨bs, 1, none⟩ = some (.int .i64 ch) := HI5.out.hi
          have h4 := HI5.out.fz
          have HNO := Lib.hid (show ¬ (bo = true ∧ br = true ∧ max cl rlo ≤ min ch rhi) → CeR V bs G radar p rs i (.int .i64 ((m : Int) + 1)) x5.w from fun hno => ⟨m + 1, by omega, by go_num, ⟨x5.w, HBX.out⟩, rfl, by rw [HSTEP.out, if_neg hno]; exact HI5.out⟩)
          clear hV5 r0 r1 r2 e0 e1 e2 e3 f0 f1 hE
          cases bo
          · have HX := Lib.hid (HNO.out (fun h => by simp at h))
            go_wp2_with fail
            go_roundw
            case rel => exact HX.out
            case measure => simp [intOf]; omega
          · cases br
            · have HX := Lib.hid (HNO.out (fun h => by simp at h))
              go_wp2_with fail
              go_roundw
              case rel => exact HX.out
              case measure => simp [intOf]; omega
            · have HX := Lib.hid (HNO.out (fun h => by have := h.2.2; omega))
              go_wp2_with fail
              go_roundw
              case rel => exact HX.out
              case measure => simp [intOf]; omega
        case p11 =>
          go_wp2_with fail
          refine ⟨⟨⟨_, bel_alloc z9.2.drew _⟩, rfl⟩, ?_⟩
          refine wpK_one 6 rfl (by omega) (by kernel_rfl) ?_
          have HT0 := Lib.hid (TwoBox.new z9.w.drew (0, 0) 40)
          have HBT0 := Lib.hid (show Below V8.heap.size V8 (z9.w.drew.alloc (.cells #[.int .i64 0, .int .i64 0] 40)) from bel_alloc z9.2.drew _)
          have HGB := Lib.hid (show V8.heap.size ≤ z9.w.drew.heap.size from z9.2.size)
          go_wp2_with fail
          refine (CM.out _).mono ?_
          rintro e W2 ⟨rfl, hb⟩
          have HTT := Lib.hid (show TwoBox W2 z9.w.drew.heap.size (0, 0) from HT0.out.bel ⟨W2, hb⟩)
          have HBT := Lib.hid (below_next HBT0.out hb)
          clear hb HT0 HBT0
          go_wp2_with fail
          refine ⟨⟨⟨W2, HBT.out⟩, rfl⟩, ?_⟩
          have hbx0 : z9.w.drew.heap.size = z9.w.heap.size := rfl
          rw [hbx0] at HTT HGB
          obtain ⟨bx, hbx⟩ : ∃ b, z9.w.heap.size = b := ⟨_, rfl⟩
          rw [hbx] at HTT HGB ⊢
          clear hbx hbx0
          refine wpK_take (i := 7) (v := .tuple #[.agg #[.int .i64 (0), .int .i64 (0)], .bool false]) (by kernel_rfl) rfl (by omega) (by kernel_rfl) (by kernel_rfl) (fun _ _ _ h => h) (Or.inl ⟨by rfl, ?z7⟩) ⟨⟨W2, HBT.out⟩, rfl⟩ ?_
          case z7 => intro w1 hS; (first | rfl | (go_simp <;> with_reducible rfl) | go_simp)
          simp only [Act.put, List.setIfInBounds_toArray, List.set_cons_zero, List.set_cons_succ]
          refine wpK_take (i := 8) (v := .agg #[.int .i64 (0), .int .i64 (0)]) (by kernel_rfl) rfl (by omega) (by kernel_rfl) (by kernel_rfl) (fun _ _ _ h => h) (Or.inl ⟨by rfl, ?z8⟩) ⟨⟨W2, HBT.out⟩, rfl⟩ ?_
          case z8 => intro w1 hS; (first | rfl | (go_simp <;> with_reducible rfl) | go_simp)
          simp only [Act.put, List.setIfInBounds_toArray, List.set_cons_zero, List.set_cons_succ]
          refine wpK_take (i := 9) (v := .bool false) (by kernel_rfl) rfl (by omega) (by kernel_rfl) (by kernel_rfl) (fun _ _ _ h => h) (Or.inl ⟨by rfl, ?z9⟩) ⟨⟨W2, HBT.out⟩, rfl⟩ ?_
          case z9 => intro w1 hS; (first | rfl | (go_simp <;> with_reducible rfl) | go_simp)
          simp only [Act.put, List.setIfInBounds_toArray, List.set_cons_zero, List.set_cons_succ]
          have r0 : W2.cell? ⟨bx, 0, none⟩ = some (.int .i64 0) := HTT.out.lo
          have r1 : W2.cell? ⟨bx, 1, none⟩ = some (.int .i64 0) := HTT.out.hi
          have r2 := HTT.out.fz
          refine wpK_one 11 rfl (by omega) (by kernel_rfl) ?_
          go_wp2_with fail
          refine ⟨⟨⟨_, (HBT.out.setCell (by exact HGB.out) _).setCell (by exact HGB.out) _⟩, rfl⟩, wpK_done (by kernel_rfl) ?_⟩
          simp only [List.drop_succ_cons, List.drop_zero]
          go_upto_region 11 with fail
          refine wp_rebase _ (fun V5 hV5 x5 => ?_)
          have HT5 := Lib.hid (show TwoBox V5 bx (0, 0) by rw [hV5]; exact HTT.out.set (0, 0))
          have HB5 := Lib.hid (show Below V8.heap.size V8 V5 by rw [hV5]; exact (HBT.out.setCell (by exact HGB.out) _).setCell (by exact HGB.out) _)
          have HBX := Lib.hid (show Below V.heap.size V x5.w from below_next HB8.out (below_next HB5.out x5.2))
          have HI5 := Lib.hid (show TwoBox x5.w bs (cl, ch) from HI.out.bel (⟨x5.w, below_next HB5.out x5.2⟩ : BelW V8))
          have h0 : x5.w.cell? ⟨bx, 0, none⟩ = some (.int .i64 (0)) := (HT5.out.bel x5).lo
          have h1 : x5.w.cell? ⟨bx, 1, none⟩ = some (.int .i64 (0)) := (HT5.out.bel x5).hi
          have h2 : x5.w.cell? ⟨bs, 0, none⟩ = some (.int .i64 cl) := HI5.out.lo
          have h3 : x5.w.cell? ⟨bs, 1, none⟩ = some (.int .i64 ch) := HI5.out.hi
          have h4 := HI5.out.fz
          have HNO := Lib.hid (show ¬ (bo = true ∧ br = true ∧ max cl rlo ≤ min ch rhi) → CeR V bs G radar p rs i (.int .i64 ((m : Int) + 1)) x5.w from fun hno => ⟨m + 1, by omega, by go_num, ⟨x5.w, HBX.out⟩, rfl, by rw [HSTEP.out, if_neg hno]; exact HI5.out⟩)
          clear hV5 r0 r1 r2 e0 e1 e2 e3 f0 f1 hE
          cases bo
          · have HX := Lib.hid (HNO.out (fun h => by simp at h))
            go_wp2_with fail
            go_roundw
            case rel => exact HX.out
            case measure => simp [intOf]; omega
          · cases br
            · have HX := Lib.hid (HNO.out (fun h => by simp at h))
              go_wp2_with fail
              go_roundw
              case rel => exact HX.out
              case measure => simp [intOf]; omega
            · have HX := Lib.hid (HNO.out (fun h => by have := h.2.2; omega))
              go_wp2_with fail
              go_roundw
              case rel => exact HX.out
              case measure => simp [intOf]; omega
    · have i5 : decide ((m : Int) < (rs.length : Int)) = false := decide_eq_false (by omega)
      obtain rfl : m = rs.length := by omega
      rw [List.take_length, HT.out] at hI
      have hR1 := HRES.out.bel y
      have g0 : y.w.cell? ⟨bs, 0, none⟩ = some (.int .i64 tl) := hI.lo
      have g1 : y.w.cell? ⟨bs, 1, none⟩ = some (.int .i64 th) := hI.hi
      have r0 : y.w.cell? ⟨w.heap.size + 1, 0, none⟩ = some (.int .i64 0) := hR1.lo
      have r1 : y.w.cell? ⟨w.heap.size + 1, 1, none⟩ = some (.int .i64 0) := hR1.hi
      have r2 := hR1.fz
      have HB := Lib.hid (show Below w.heap.size w y.w from below_next HB0.out y.2)
      clear hI hR1
      go_wp2_with fail
      refine bodyPost_ret (v := .agg #[.int .i64 tl, .int .i64 th]) ?_ rfl ⟨rfl, (HB.out.setCell (by simp) _).setCell (by simp) _⟩
      simp [results, Try.results29, go_sem, r0, r1]

set_option maxHeartbeats 64000000 in
set_option maxRecDepth 100000 in
theorem cell26_out (GA RA SA : Option Addr) (gc rc sc : Nat) (G : List Gg) (radar : List Int) (rs : List Rg) (cn p : Int) (i : Nat) (d0 d1 d3 d4 d5 d7 d8 d9 d10 : Value) (hrn : radar.length ≤ 9223372036854775807) (hsn : rs.length ≤ 9223372036854775807) (hgn : G.length ≤ 9223372036854775807) (hin : i ≤ 1000) (hp : Fit p) (w : World)
    (hri : ¬ i < radar.length) (hG : Rd w GA (ggCells G)) (hR : Rd w RA (ints radar)) (hS : Rd w SA (rgCells rs)) :
    Calls Try.prog 29 #[.agg #[d0, d1, .int .i64 cn, d3, d4, d5, .slice GA G.length gc, d7, d8, d9, d10], .slice RA radar.length rc, .int .i64 p, .slice SA rs.length sc, .int .i64 (i : Int)] w fun e w' => e = .returned (.agg #[.int .i64 (cellAt G radar p rs i).1, .int .i64 (cellAt G radar p rs i).2]) ∧ Below w.heap.size w w' := by
  obtain ⟨T, hT⟩ : ∃ S, cellAt G radar p rs i = S := ⟨_, rfl⟩
  rw [hT]
  have HT := Lib.hid hT
  clear hT
  obtain ⟨tl, th⟩ := T
  go_enter Try.func29, Try.ntmps29
  go_upto_region 1 with fail
  refine wp_rebase _ (fun V hV x0 => ?_)
  have HB0 := Lib.hid (show Below w.heap.size w V by rw [hV]; exact bel_alloc (bel_alloc (Below.refl _ _) _) _)
  have HBAS := Lib.hid (show V.rangeAt w.heap.size 0 [d0, d1, .int .i64 cn, d3, d4, d5, .slice GA G.length gc, d7, d8, d9, d10] by rw [hV]; exact World.rangeAt_alloc (range_new _ _ [d0, d1, .int .i64 cn, d3, d4, d5, .slice GA G.length gc, d7, d8, d9, d10]) _)
  have HRES := Lib.hid (show TwoBox V (w.heap.size + 1) (0, 0) by
    rw [hV]
    have h2 := TwoBox.new (w.alloc (.cells #[d0, d1, .int .i64 cn, d3, d4, d5, .slice GA G.length gc, d7, d8, d9, d10] 31)) (0, 0) 40
    rw [World.size_alloc] at h2
    exact h2)
  have HG := Lib.hid (hG.below (Nat.le_refl _) HB0.out)
  have HR := Lib.hid (hR.below (Nat.le_refl _) HB0.out)
  have HS := Lib.hid (hS.below (Nat.le_refl _) HB0.out)
  have HPF := Lib.hid hp
  have CR := Lib.hid (fun z : BelW V => bel_of (refrad_any (gi radar i) p hp z.w))
  have HRAD := Lib.hid (show cellAt G radar p [] i = (radLo (gi radar i) p, radHi (gi radar i) p) from rfl)
  obtain ⟨rl, hrl⟩ : ∃ x, radLo (gi radar i) p = x := ⟨_, rfl⟩
  obtain ⟨rh, hrh⟩ : ∃ x, radHi (gi radar i) p = x := ⟨_, rfl⟩
  rw [hrl, hrh] at CR HRAD
  clear hV hG hR hS hp hrl hrh
  have j1 : (0 : Int) ≤ (i : Int) := by omega
  have t1 : decide ((i : Int) < (radar.length : Int)) = false := decide_eq_false (by omega)
  rw [gi_neg hri] at CR
  go_upto_region 5 with (first | (go_at_call 40; (with_reducible refine (CR.out _).mono ?_); rintro e w' ⟨rfl, z, rfl⟩))
  refine wp_named _ (fun W hW => ?_)
  have HTB := Lib.hid (show TwoBox W z.w.heap.size (cellAt G radar p (rs.take 0) i) by
    rw [hW, List.take_zero, HRAD.out]
    exact TwoBox.new z.w (rl, rh) _)
  have HBW := Lib.hid (show Below V.heap.size V W by rw [hW]; exact bel_alloc z.2 _)
  have HZ := Lib.hid (show V.heap.size ≤ z.w.heap.size from z.2.size)
  obtain ⟨bs, hbs⟩ : ∃ b, z.w.heap.size = b := ⟨_, rfl⟩
  rw [hbs] at HTB HZ ⊢
  clear hW hbs z CR
  go_wp2_with fail
  go_loopw [13] (fun s13 wr => CeR V bs G radar p rs i s13 wr) (fun i _ => rs.length - (intOf i).toNat)
  case atStart => exact ⟨0, by omega, rfl, ⟨W, HBW.out⟩, rfl, HTB.out⟩
  case round =>
    obtain ⟨m, hm, rfl, y, rfl, hI⟩ := hrel
    by_cases hlm : m < rs.length
    · have i5 : decide ((m : Int) < (rs.length : Int)) = true := decide_eq_true (by omega)
      have m1 : (0 : Int) ≤ (m : Int) := by omega
      have m2 : (m : Int) < (rs.length : Int) := by omega
      have HI0 := Lib.hid hI
      clear hI
      go_upto_region 8 with fail
      refine wp_rebase _ (fun V8 hV8 x8 => ?_)
      have HI := Lib.hid (show TwoBox V8 bs (cellAt G radar p (rs.take m) i) by rw [hV8]; exact HI0.out)
      have HB8 := Lib.hid (show Below V.heap.size V V8 by rw [hV8]; exact y.2)
      obtain ⟨sd, sb, so, rfl, hbs2, hE, hrg⟩ := (HS.out.below (Nat.le_refl _) HB8.out).reading hlm
      have hst := cellAt_take G radar p hlm i
      obtain ⟨r, hr⟩ : ∃ r, rg rs m = r := ⟨_, rfl⟩
      rw [hr] at hrg hst
      clear hr
      obtain ⟨rg0, rhr, rlo, rhi⟩ := r
      have COf := Lib.hid (fun z : BelW V8 => bel_of (of26_any GA gc G cn d0 d1 d3 d4 d5 d7 d8 d9 d10 hgn rg0 rhr rlo rhi i z.w ((HG.out.below (Nat.le_refl _) HB8.out).bel z)))
      have CRt := Lib.hid (fun z : BelW V8 => bel_of (refright_any rlo rhi z.w))
      obtain ⟨bo, hbo⟩ : ∃ b, decide (ofR G ⟨rg0, rhr, rlo, rhi⟩ i) = b := ⟨_, rfl⟩
      obtain ⟨br, hbr⟩ : ∃ b, decide (rlo ≤ rhi) = b := ⟨_, rfl⟩
      rw [hbo] at COf
      rw [hbr] at CRt
      have hBO := decide_of hbo
      have hBR := decide_of hbr
      obtain ⟨c, hc⟩ : ∃ c, cellAt G radar p (rs.take m) i = c := ⟨_, rfl⟩
      rw [hc] at HI hst
      obtain ⟨cl, ch⟩ := c
      have HSTEP := Lib.hid (show cellAt G radar p (rs.take (m + 1)) i = if bo = true ∧ br = true ∧ max cl rlo ≤ min ch rhi then (max cl rlo, min ch rhi) else (cl, ch) by
        rw [hst]
        unfold cellStep
        by_cases h : bo = true ∧ br = true ∧ max cl rlo ≤ min ch rhi
        · rw [if_pos h, if_pos ⟨hBO.2 h.1, hBR.2 h.2.1, h.2.2⟩]
        · rw [if_neg h, if_neg (fun h' => h ⟨hBO.1 h'.1, hBR.1 h'.2.1, h'.2.2⟩)])
      have HRX := Lib.hid (show V8.rangeAt w.heap.size 0 [d0, d1, .int .i64 cn, d3, d4, d5, .slice GA G.length gc, d7, d8, d9, d10] from BelW.range HBAS.out ⟨V8, HB8.out⟩)
      have e0 := fun z : BelW V8 => (show z.w.cell? ⟨sb, so, none⟩ = some (.int .i64 rg0) from BelW.cells (hrg 0 _ rfl) z)
      have e1 := fun z : BelW V8 => (show z.w.cell? ⟨sb, so + 1, none⟩ = some (.int .i64 rhr) from BelW.cells (hrg 1 _ rfl) z)
      have e2 := fun z : BelW V8 => (show z.w.cell? ⟨sb, so + 2, none⟩ = some (.int .i64 rlo) from BelW.cells (hrg 2 _ rfl) z)
      have e3 := fun z : BelW V8 => (show z.w.cell? ⟨sb, so + 3, none⟩ = some (.int .i64 rhi) from BelW.cells (hrg 3 _ rfl) z)
      have f0 := fun z : BelW V8 => (show z.w.cell? ⟨bs, 0, none⟩ = some (.int .i64 cl) from (HI.out.bel z).lo)
      have f1 := fun z : BelW V8 => (show z.w.cell? ⟨bs, 1, none⟩ = some (.int .i64 ch) from (HI.out.bel z).hi)
      clear hV8 HI0 hbs2 hrg hst hbo hbr hc hBO hBR
      refine wp_region_belx (by kernel_rfl) (by kernel_rfl) ?_
      repeat (first
        | (with_reducible refine wpQuiet_load_g 31 _ (by with_reducible rfl) _ _ (by with_unfolding_all rfl) (by with_unfolding_all rfl) _ _ (rangeX HRX.out) Try.underlying31 (by with_unfolding_all rfl) (by kernel_rfl) ?_; simp only [Act.put, List.setIfInBounds_toArray, List.set_cons_succ, List.set_cons_zero])
        | go_big_quiet_step ((first | (go_at_call 19; with_reducible exact COf.out _))))
      refine wpQuiet_nil ?_
      intro z8
      go_upto_region 10 with (first | (go_at_call 41; (with_reducible refine (CRt.out _).mono ?_); rintro e w' ⟨rfl, z9, rfl⟩))
      have HS0 := Lib.hid (show ∃ z : BelW V8, z9.w.drew = z.w from ⟨⟨_, z9.2.drew⟩, rfl⟩)
      have CM := Lib.hid (fun z : World => refmeet_any cl ch rlo rhi z)
      clear COf CRt HRX
      by_cases d7 : max cl rlo ≤ min ch rhi
      · rw [if_pos d7] at CM
        refine wp_region_tail 12 (fun w' => ∃ z : BelW V8, w' = z.w) (by kernel_rfl) (by kernel_rfl) HS0.out ?_
        refine wpK_take (i := 0) (v := ?v0) (by kernel_rfl) rfl (by omega) (by kernel_rfl) (by kernel_rfl) (fun _ _ _ h => h) (Or.inl ⟨by rfl, ?y0⟩) HS0.out ?_
        case y0 => intro w1 hS; obtain ⟨z, rfl⟩ := hS; (go_simp <;> with_reducible rfl)
        simp only [Act.put, List.setIfInBounds_toArray, List.set_cons_zero, List.set_cons_succ]
        refine wpK_take (i := 1) (v := ?v1) (by kernel_rfl) rfl (by omega) (by kernel_rfl) (by kernel_rfl) (fun _ _ _ h => h) (Or.inl ⟨by rfl, ?y1⟩) HS0.out ?_
        case y1 => intro w1 hS; (go_simp <;> with_reducible rfl)
        simp only [Act.put, List.setIfInBounds_toArray, List.set_cons_zero, List.set_cons_succ]
        refine wpK_take (i := 2) (v := ?v2) (by kernel_rfl) rfl (by omega) (by kernel_rfl) (by kernel_rfl) (fun _ _ _ h => h) (Or.inl ⟨by rfl, ?y2⟩) HS0.out ?_
        case y2 => intro w1 hS; (go_simp <;> with_reducible rfl)
        simp only [Act.put, List.setIfInBounds_toArray, List.set_cons_zero, List.set_cons_succ]
        refine wpK_take (i := 3) (v := ?v3) (by kernel_rfl) rfl (by omega) (by kernel_rfl) (by kernel_rfl) (fun _ _ _ h => h) (Or.inl ⟨by rfl, ?y3⟩) HS0.out ?_
        case y3 => intro w1 hS; (go_simp <;> with_reducible rfl)
        simp only [Act.put, List.setIfInBounds_toArray, List.set_cons_zero, List.set_cons_succ]
        refine wpK_take (i := 4) (v := ?v4) (by kernel_rfl) rfl (by omega) (by kernel_rfl) (by kernel_rfl) (fun _ _ _ h => h) (Or.inl ⟨by rfl, ?y4⟩) HS0.out ?_
        case y4 => intro w1 hS; (go_simp <;> with_reducible rfl)
        simp only [Act.put, List.setIfInBounds_toArray, List.set_cons_zero, List.set_cons_succ]
        refine wpK_take (i := 5) (v := ?v5) (by kernel_rfl) rfl (by omega) (by kernel_rfl) (by kernel_rfl) (fun _ _ _ h => h) (Or.inl ⟨by rfl, ?y5⟩) HS0.out ?_
        case y5 => intro w1 hS; obtain ⟨z, rfl⟩ := hS; (go_simp <;> with_reducible rfl)
        simp only [Act.put, List.setIfInBounds_toArray, List.set_cons_zero, List.set_cons_succ]
        refine wpK_two 6 10 rfl rfl (by omega) (by omega) (by kernel_rfl) ?p7 ?p11
        case p7 =>
          go_wp2_with fail
          refine (bel_of (x := (⟨_, z9.2.drew⟩ : BelW V8)) (CM.out _)).mono ?_
          rintro e w' ⟨rfl, ya, rfl⟩
          go_wp2_with fail
          refine ⟨⟨ya, rfl⟩, ?_⟩
          refine wpK_take (i := 7) (v := .tuple #[.agg #[.int .i64 (max cl rlo), .int .i64 (min ch rhi)], .bool true]) (by kernel_rfl) rfl (by omega) (by kernel_rfl) (by kernel_rfl) (fun _ _ _ h => h) (Or.inl ⟨by rfl, ?z7⟩) ⟨ya, rfl⟩ ?_
          case z7 => intro w1 hS; (first | rfl | (go_simp <;> with_reducible rfl) | go_simp)
          simp only [Act.put, List.setIfInBounds_toArray, List.set_cons_zero, List.set_cons_succ]
          refine wpK_take (i := 8) (v := .agg #[.int .i64 (max cl rlo), .int .i64 (min ch rhi)]) (by kernel_rfl) rfl (by omega) (by kernel_rfl) (by kernel_rfl) (fun _ _ _ h => h) (Or.inl ⟨by rfl, ?z8⟩) ⟨ya, rfl⟩ ?_
          case z8 => intro w1 hS; (first | rfl | (go_simp <;> with_reducible rfl) | go_simp)
          simp only [Act.put, List.setIfInBounds_toArray, List.set_cons_zero, List.set_cons_succ]
          refine wpK_take (i := 9) (v := .bool true) (by kernel_rfl) rfl (by omega) (by kernel_rfl) (by kernel_rfl) (fun _ _ _ h => h) (Or.inl ⟨by rfl, ?z9⟩) ⟨ya, rfl⟩ ?_
          case z9 => intro w1 hS; (first | rfl | (go_simp <;> with_reducible rfl) | go_simp)
          simp only [Act.put, List.setIfInBounds_toArray, List.set_cons_zero, List.set_cons_succ]
          refine wpK_one 10 rfl (by omega) (by kernel_rfl) ?_
          go_wp2_with fail
          refine ⟨⟨⟨_, bel_alloc ya.2 _⟩, rfl⟩, ?_⟩
          have HTT := Lib.hid (TwoBox.new ya.w (0, 0) 40)
          have HBT := Lib.hid (show Below V8.heap.size V8 (ya.w.alloc (.cells #[.int .i64 0, .int .i64 0] 40)) from bel_alloc ya.2 _)
          have HGB := Lib.hid (show V8.heap.size ≤ ya.w.heap.size from ya.2.size)
          obtain ⟨bx, hbx⟩ : ∃ b, ya.w.heap.size = b := ⟨_, rfl⟩
          obtain ⟨W2, hW2⟩ : ∃ W, ya.w.alloc (.cells #[.int .i64 0, .int .i64 0] 40) = W := ⟨_, rfl⟩
          rw [hbx] at HTT HGB ⊢
          rw [hW2] at HTT HBT ⊢
          clear hbx hW2
          have r0 : W2.cell? ⟨bx, 0, none⟩ = some (.int .i64 0) := HTT.out.lo
          have r1 : W2.cell? ⟨bx, 1, none⟩ = some (.int .i64 0) := HTT.out.hi
          have r2 := HTT.out.fz
          refine wpK_one 11 rfl (by omega) (by kernel_rfl) ?_
          go_wp2_with fail
          refine ⟨⟨⟨_, (HBT.out.setCell (by exact HGB.out) _).setCell (by exact HGB.out) _⟩, rfl⟩, wpK_done (by kernel_rfl) ?_⟩
          simp only [List.drop_succ_cons, List.drop_zero]
          go_upto_region 11 with fail
          refine wp_rebase _ (fun V5 hV5 x5 => ?_)
          have HT5 := Lib.hid (show TwoBox V5 bx (max cl rlo, min ch rhi) by rw [hV5]; exact HTT.out.set (max cl rlo, min ch rhi))
          have HB5 := Lib.hid (show Below V8.heap.size V8 V5 by rw [hV5]; exact (HBT.out.setCell (by exact HGB.out) _).setCell (by exact HGB.out) _)
          have HBX := Lib.hid (show Below V.heap.size V x5.w from below_next HB8.out (below_next HB5.out x5.2))
          have HI5 := Lib.hid (show TwoBox x5.w bs (cl, ch) from HI.out.bel (⟨x5.w, below_next HB5.out x5.2⟩ : BelW V8))
          have h0 : x5.w.cell? ⟨bx, 0, none⟩ = some (.int .i64 (max cl rlo)) := (HT5.out.bel x5).lo
          have h1 : x5.w.cell? ⟨bx, 1, none⟩ = some (.int .i64 (min ch rhi)) := (HT5.out.bel x5).hi
          have h2 : x5.w.cell? ⟨bs, 0, none⟩ = some (.int .i64 cl) := HI5.out.lo
          have h3 : x5.w.cell? ⟨bs, 1, none⟩ = some (.int .i64 ch) := HI5.out.hi
          have h4 := HI5.out.fz
          have HNO := Lib.hid (show ¬ (bo = true ∧ br = true ∧ max cl rlo ≤ min ch rhi) → CeR V bs G radar p rs i (.int .i64 ((m : Int) + 1)) x5.w from fun hno => ⟨m + 1, by omega, by go_num, ⟨x5.w, HBX.out⟩, rfl, by rw [HSTEP.out, if_neg hno]; exact HI5.out⟩)
          have HYES := Lib.hid (show bo = true ∧ br = true → CeR V bs G radar p rs i (.int .i64 ((m : Int) + 1)) ((x5.w.setCell ⟨bs, 0, none⟩ (.int .i64 (max cl rlo))).setCell ⟨bs, 1, none⟩ (.int .i64 (min ch rhi))) from fun hy => ⟨m + 1, by omega, by go_num, ⟨_, (HBX.out.setCell (by exact HZ.out) _).setCell (by exact HZ.out) _⟩, rfl, by rw [HSTEP.out, if_pos ⟨hy.1, hy.2, d7⟩]; exact HI5.out.set (max cl rlo, min ch rhi)⟩)
          clear hV5 r0 r1 r2 e0 e1 e2 e3 f0 f1 hE
          cases bo
          · have HX := Lib.hid (HNO.out (fun h => by simp at h))
            go_wp2_with fail
            go_roundw
            case rel => exact HX.out
            case measure => simp [intOf]; omega
          · cases br
            · have HX := Lib.hid (HNO.out (fun h => by simp at h))
              go_wp2_with fail
              go_roundw
              case rel => exact HX.out
              case measure => simp [intOf]; omega
            · have HX := Lib.hid (HYES.out ⟨rfl, rfl⟩)
              go_wp2_with fail
              go_roundw
              case rel => exact HX.out
              case measure => simp [intOf]; omega
        case p11 =>
          go_wp2_with fail
          refine ⟨⟨⟨_, bel_alloc z9.2.drew _⟩, rfl⟩, ?_⟩
          refine wpK_one 6 rfl (by omega) (by kernel_rfl) ?_
          have HT0 := Lib.hid (TwoBox.new z9.w.drew (0, 0) 40)
          have HBT0 := Lib.hid (show Below V8.heap.size V8 (z9.w.drew.alloc (.cells #[.int .i64 0, .int .i64 0] 40)) from bel_alloc z9.2.drew _)
          have HGB := Lib.hid (show V8.heap.size ≤ z9.w.drew.heap.size from z9.2.size)
          go_wp2_with fail
          refine (CM.out _).mono ?_
          rintro e W2 ⟨rfl, hb⟩
          have HTT := Lib.hid (show TwoBox W2 z9.w.drew.heap.size (0, 0) from HT0.out.bel ⟨W2, hb⟩)
          have HBT := Lib.hid (below_next HBT0.out hb)
          clear hb HT0 HBT0
          go_wp2_with fail
          refine ⟨⟨⟨W2, HBT.out⟩, rfl⟩, ?_⟩
          have hbx0 : z9.w.drew.heap.size = z9.w.heap.size := rfl
          rw [hbx0] at HTT HGB
          obtain ⟨bx, hbx⟩ : ∃ b, z9.w.heap.size = b := ⟨_, rfl⟩
          rw [hbx] at HTT HGB ⊢
          clear hbx hbx0
          refine wpK_take (i := 7) (v := .tuple #[.agg #[.int .i64 (max cl rlo), .int .i64 (min ch rhi)], .bool true]) (by kernel_rfl) rfl (by omega) (by kernel_rfl) (by kernel_rfl) (fun _ _ _ h => h) (Or.inl ⟨by rfl, ?z7⟩) ⟨⟨W2, HBT.out⟩, rfl⟩ ?_
          case z7 => intro w1 hS; (first | rfl | (go_simp <;> with_reducible rfl) | go_simp)
          simp only [Act.put, List.setIfInBounds_toArray, List.set_cons_zero, List.set_cons_succ]
          refine wpK_take (i := 8) (v := .agg #[.int .i64 (max cl rlo), .int .i64 (min ch rhi)]) (by kernel_rfl) rfl (by omega) (by kernel_rfl) (by kernel_rfl) (fun _ _ _ h => h) (Or.inl ⟨by rfl, ?z8⟩) ⟨⟨W2, HBT.out⟩, rfl⟩ ?_
          case z8 => intro w1 hS; (first | rfl | (go_simp <;> with_reducible rfl) | go_simp)
          simp only [Act.put, List.setIfInBounds_toArray, List.set_cons_zero, List.set_cons_succ]
          refine wpK_take (i := 9) (v := .bool true) (by kernel_rfl) rfl (by omega) (by kernel_rfl) (by kernel_rfl) (fun _ _ _ h => h) (Or.inl ⟨by rfl, ?z9⟩) ⟨⟨W2, HBT.out⟩, rfl⟩ ?_
          case z9 => intro w1 hS; (first | rfl | (go_simp <;> with_reducible rfl) | go_simp)
          simp only [Act.put, List.setIfInBounds_toArray, List.set_cons_zero, List.set_cons_succ]
          have r0 : W2.cell? ⟨bx, 0, none⟩ = some (.int .i64 0) := HTT.out.lo
          have r1 : W2.cell? ⟨bx, 1, none⟩ = some (.int .i64 0) := HTT.out.hi
          have r2 := HTT.out.fz
          refine wpK_one 11 rfl (by omega) (by kernel_rfl) ?_
          go_wp2_with fail
          refine ⟨⟨⟨_, (HBT.out.setCell (by exact HGB.out) _).setCell (by exact HGB.out) _⟩, rfl⟩, wpK_done (by kernel_rfl) ?_⟩
          simp only [List.drop_succ_cons, List.drop_zero]
          go_upto_region 11 with fail
          refine wp_rebase _ (fun V5 hV5 x5 => ?_)
          have HT5 := Lib.hid (show TwoBox V5 bx (max cl rlo, min ch rhi) by rw [hV5]; exact HTT.out.set (max cl rlo, min ch rhi))
          have HB5 := Lib.hid (show Below V8.heap.size V8 V5 by rw [hV5]; exact (HBT.out.setCell (by exact HGB.out) _).setCell (by exact HGB.out) _)
          have HBX := Lib.hid (show Below V.heap.size V x5.w from below_next HB8.out (below_next HB5.out x5.2))
          have HI5 := Lib.hid (show TwoBox x5.w bs (cl, ch) from HI.out.bel (⟨x5.w, below_next HB5.out x5.2⟩ : BelW V8))
          have h0 : x5.w.cell? ⟨bx, 0, none⟩ = some (.int .i64 (max cl rlo)) := (HT5.out.bel x5).lo
          have h1 : x5.w.cell? ⟨bx, 1, none⟩ = some (.int .i64 (min ch rhi)) := (HT5.out.bel x5).hi
          have h2 : x5.w.cell? ⟨bs, 0, none⟩ = some (.int .i64 cl) := HI5.out.lo
          have h3 : x5.w.cell? ⟨bs, 1, none⟩ = some (.int .i64 ch) := HI5.out.hi
          have h4 := HI5.out.fz
          have HNO := Lib.hid (show ¬ (bo = true ∧ br = true ∧ max cl rlo ≤ min ch rhi) → CeR V bs G radar p rs i (.int .i64 ((m : Int) + 1)) x5.w from fun hno => ⟨m + 1, by omega, by go_num, ⟨x5.w, HBX.out⟩, rfl, by rw [HSTEP.out, if_neg hno]; exact HI5.out⟩)
          have HYES := Lib.hid (show bo = true ∧ br = true → CeR V bs G radar p rs i (.int .i64 ((m : Int) + 1)) ((x5.w.setCell ⟨bs, 0, none⟩ (.int .i64 (max cl rlo))).setCell ⟨bs, 1, none⟩ (.int .i64 (min ch rhi))) from fun hy => ⟨m + 1, by omega, by go_num, ⟨_, (HBX.out.setCell (by exact HZ.out) _).setCell (by exact HZ.out) _⟩, rfl, by rw [HSTEP.out, if_pos ⟨hy.1, hy.2, d7⟩]; exact HI5.out.set (max cl rlo, min ch rhi)⟩)
          clear hV5 r0 r1 r2 e0 e1 e2 e3 f0 f1 hE
          cases bo
          · have HX := Lib.hid (HNO.out (fun h => by simp at h))
            go_wp2_with fail
            go_roundw
            case rel => exact HX.out
            case measure => simp [intOf]; omega
          · cases br
            · have HX := Lib.hid (HNO.out (fun h => by simp at h))
              go_wp2_with fail
              go_roundw
              case rel => exact HX.out
              case measure => simp [intOf]; omega
            · have HX := Lib.hid (HYES.out ⟨rfl, rfl⟩)
              go_wp2_with fail
              go_roundw
              case rel => exact HX.out
              case measure => simp [intOf]; omega
      · rw [if_neg d7] at CM
        refine wp_region_tail 12 (fun w' => ∃ z : BelW V8, w' = z.w) (by kernel_rfl) (by kernel_rfl) HS0.out ?_
        refine wpK_take (i := 0) (v := ?v0) (by kernel_rfl) rfl (by omega) (by kernel_rfl) (by kernel_rfl) (fun _ _ _ h => h) (Or.inl ⟨by rfl, ?y0⟩) HS0.out ?_
        case y0 => intro w1 hS; obtain ⟨z, rfl⟩ := hS; (go_simp <;> with_reducible rfl)
        simp only [Act.put, List.setIfInBounds_toArray, List.set_cons_zero, List.set_cons_succ]
        refine wpK_take (i := 1) (v := ?v1) (by kernel_rfl) rfl (by omega) (by kernel_rfl) (by kernel_rfl) (fun _ _ _ h => h) (Or.inl ⟨by rfl, ?y1⟩) HS0.out ?_
        case y1 => intro w1 hS; (go_simp <;> with_reducible rfl)
        simp only [Act.put, List.setIfInBounds_toArray, List.set_cons_zero, List.set_cons_succ]
        refine wpK_take (i := 2) (v := ?v2) (by kernel_rfl) rfl (by omega) (by kernel_rfl) (by kernel_rfl) (fun _ _ _ h => h) (Or.inl ⟨by rfl, ?y2⟩) HS0.out ?_
        case y2 => intro w1 hS; (go_simp <;> with_reducible rfl)
        simp only [Act.put, List.setIfInBounds_toArray, List.set_cons_zero, List.set_cons_succ]
        refine wpK_take (i := 3) (v := ?v3) (by kernel_rfl) rfl (by omega) (by kernel_rfl) (by kernel_rfl) (fun _ _ _ h => h) (Or.inl ⟨by rfl, ?y3⟩) HS0.out ?_
        case y3 => intro w1 hS; (go_simp <;> with_reducible rfl)
        simp only [Act.put, List.setIfInBounds_toArray, List.set_cons_zero, List.set_cons_succ]
        refine wpK_take (i := 4) (v := ?v4) (by kernel_rfl) rfl (by omega) (by kernel_rfl) (by kernel_rfl) (fun _ _ _ h => h) (Or.inl ⟨by rfl, ?y4⟩) HS0.out ?_
        case y4 => intro w1 hS; (go_simp <;> with_reducible rfl)
        simp only [Act.put, List.setIfInBounds_toArray, List.set_cons_zero, List.set_cons_succ]
        refine wpK_take (i := 5) (v := ?v5) (by kernel_rfl) rfl (by omega) (by kernel_rfl) (by kernel_rfl) (fun _ _ _ h => h) (Or.inl ⟨by rfl, ?y5⟩) HS0.out ?_
        case y5 => intro w1 hS; obtain ⟨z, rfl⟩ := hS; (go_simp <;> with_reducible rfl)
        simp only [Act.put, List.setIfInBounds_toArray, List.set_cons_zero, List.set_cons_succ]
        refine wpK_two 6 10 rfl rfl (by omega) (by omega) (by kernel_rfl) ?p7 ?p11
        case p7 =>
          go_wp2_with fail
          refine (bel_of (x := (⟨_, z9.2.drew⟩ : BelW V8)) (CM.out _)).mono ?_
          rintro e w' ⟨rfl, ya, rfl⟩
          go_wp2_with fail
          refine ⟨⟨ya, rfl⟩, ?_⟩
          refine wpK_take (i := 7) (v := .tuple #[.agg #[.int .i64 (0), .int .i64 (0)], .bool false]) (by kernel_rfl) rfl (by omega) (by kernel_rfl) (by kernel_rfl) (fun _ _ _ h => h) (Or.inl ⟨by rfl, ?z7⟩) ⟨ya, rfl⟩ ?_
          case z7 => intro w1 hS; (first | rfl | (go_simp <;> with_reducible rfl) | go_simp)
          simp only [Act.put, List.setIfInBounds_toArray, List.set_cons_zero, List.set_cons_succ]
          refine wpK_take (i := 8) (v := .agg #[.int .i64 (0), .int .i64 (0)]) (by kernel_rfl) rfl (by omega) (by kernel_rfl) (by kernel_rfl) (fun _ _ _ h => h) (Or.inl ⟨by rfl, ?z8⟩) ⟨ya, rfl⟩ ?_
          case z8 => intro w1 hS; (first | rfl | (go_simp <;> with_reducible rfl) | go_simp)
          simp only [Act.put, List.setIfInBounds_toArray, List.set_cons_zero, List.set_cons_succ]
          refine wpK_take (i := 9) (v := .bool false) (by kernel_rfl) rfl (by omega) (by kernel_rfl) (by kernel_rfl) (fun _ _ _ h => h) (Or.inl ⟨by rfl, ?z9⟩) ⟨ya, rfl⟩ ?_
          case z9 => intro w1 hS; (first | rfl | (go_simp <;> with_reducible rfl) | go_simp)
          simp only [Act.put, List.setIfInBounds_toArray, List.set_cons_zero, List.set_cons_succ]
          refine wpK_one 10 rfl (by omega) (by kernel_rfl) ?_
          go_wp2_with fail
          refine ⟨⟨⟨_, bel_alloc ya.2 _⟩, rfl⟩, ?_⟩
          have HTT := Lib.hid (TwoBox.new ya.w (0, 0) 40)
          have HBT := Lib.hid (show Below V8.heap.size V8 (ya.w.alloc (.cells #[.int .i64 0, .int .i64 0] 40)) from bel_alloc ya.2 _)
          have HGB := Lib.hid (show V8.heap.size ≤ ya.w.heap.size from ya.2.size)
          obtain ⟨bx, hbx⟩ : ∃ b, ya.w.heap.size = b := ⟨_, rfl⟩
          obtain ⟨W2, hW2⟩ : ∃ W, ya.w.alloc (.cells #[.int .i64 0, .int .i64 0] 40) = W := ⟨_, rfl⟩
          rw [hbx] at HTT HGB ⊢
          rw [hW2] at HTT HBT ⊢
          clear hbx hW2
          have r0 : W2.cell? ⟨bx, 0, none⟩ = some (.int .i64 0) := HTT.out.lo
          have r1 : W2.cell? ⟨bx, 1, none⟩ = some (.int .i64 0) := HTT.out.hi
          have r2 := HTT.out.fz
          refine wpK_one 11 rfl (by omega) (by kernel_rfl) ?_
          go_wp2_with fail
          refine ⟨⟨⟨_, (HBT.out.setCell (by exact HGB.out) _).setCell (by exact HGB.out) _⟩, rfl⟩, wpK_done (by kernel_rfl) ?_⟩
          simp only [List.drop_succ_cons, List.drop_zero]
          go_upto_region 11 with fail
          refine wp_rebase _ (fun V5 hV5 x5 => ?_)
          have HT5 := Lib.hid (show TwoBox V5 bx (0, 0) by rw [hV5]; exact HTT.out.set (0, 0))
          have HB5 := Lib.hid (show Below V8.heap.size V8 V5 by rw [hV5]; exact (HBT.out.setCell (by exact HGB.out) _).setCell (by exact HGB.out) _)
          have HBX := Lib.hid (show Below V.heap.size V x5.w from below_next HB8.out (below_next HB5.out x5.2))
          have HI5 := Lib.hid (show TwoBox x5.w bs (cl, ch) from HI.out.bel (⟨x5.w, below_next HB5.out x5.2⟩ : BelW V8))
          have h0 : x5.w.cell? ⟨bx, 0, none⟩ = some (.int .i64 (0)) := (HT5.out.bel x5).lo
          have h1 : x5.w.cell? ⟨bx, 1, none⟩ = some (.int .i64 (0)) := (HT5.out.bel x5).hi
          have h2 : x5.w.cell? ⟨bs, 0, none⟩ = some (.int .i64 cl) := HI5.out.lo
          have h3 : x5.w.cell? ⟨bs, 1, none⟩ = some (.int .i64 ch) := HI5.out.hi
          have h4 := HI5.out.fz
          have HNO := Lib.hid (show ¬ (bo = true ∧ br = true ∧ max cl rlo ≤ min ch rhi) → CeR V bs G radar p rs i (.int .i64 ((m : Int) + 1)) x5.w from fun hno => ⟨m + 1, by omega, by go_num, ⟨x5.w, HBX.out⟩, rfl, by rw [HSTEP.out, if_neg hno]; exact HI5.out⟩)
          clear hV5 r0 r1 r2 e0 e1 e2 e3 f0 f1 hE
          cases bo
          · have HX := Lib.hid (HNO.out (fun h => by simp at h))
            go_wp2_with fail
            go_roundw
            case rel => exact HX.out
            case measure => simp [intOf]; omega
          · cases br
            · have HX := Lib.hid (HNO.out (fun h => by simp at h))
              go_wp2_with fail
              go_roundw
              case rel => exact HX.out
              case measure => simp [intOf]; omega
            · have HX := Lib.hid (HNO.out (fun h => by have := h.2.2; omega))
              go_wp2_with fail
              go_roundw
              case rel => exact HX.out
              case measure => simp [intOf]; omega
        case p11 =>
          go_wp2_with fail
          refine ⟨⟨⟨_, bel_alloc z9.2.drew _⟩, rfl⟩, ?_⟩
          refine wpK_one 6 rfl (by omega) (by kernel_rfl) ?_
          have HT0 := Lib.hid (TwoBox.new z9.w.drew (0, 0) 40)
          have HBT0 := Lib.hid (show Below V8.heap.size V8 (z9.w.drew.alloc (.cells #[.int .i64 0, .int .i64 0] 40)) from bel_alloc z9.2.drew _)
          have HGB := Lib.hid (show V8.heap.size ≤ z9.w.drew.heap.size from z9.2.size)
          go_wp2_with fail
          refine (CM.out _).mono ?_
          rintro e W2 ⟨rfl, hb⟩
          have HTT := Lib.hid (show TwoBox W2 z9.w.drew.heap.size (0, 0) from HT0.out.bel ⟨W2, hb⟩)
          have HBT := Lib.hid (below_next HBT0.out hb)
          clear hb HT0 HBT0
          go_wp2_with fail
          refine ⟨⟨⟨W2, HBT.out⟩, rfl⟩, ?_⟩
          have hbx0 : z9.w.drew.heap.size = z9.w.heap.size := rfl
          rw [hbx0] at HTT HGB
          obtain ⟨bx, hbx⟩ : ∃ b, z9.w.heap.size = b := ⟨_, rfl⟩
          rw [hbx] at HTT HGB ⊢
          clear hbx hbx0
          refine wpK_take (i := 7) (v := .tuple #[.agg #[.int .i64 (0), .int .i64 (0)], .bool false]) (by kernel_rfl) rfl (by omega) (by kernel_rfl) (by kernel_rfl) (fun _ _ _ h => h) (Or.inl ⟨by rfl, ?z7⟩) ⟨⟨W2, HBT.out⟩, rfl⟩ ?_
          case z7 => intro w1 hS; (first | rfl | (go_simp <;> with_reducible rfl) | go_simp)
          simp only [Act.put, List.setIfInBounds_toArray, List.set_cons_zero, List.set_cons_succ]
          refine wpK_take (i := 8) (v := .agg #[.int .i64 (0), .int .i64 (0)]) (by kernel_rfl) rfl (by omega) (by kernel_rfl) (by kernel_rfl) (fun _ _ _ h => h) (Or.inl ⟨by rfl, ?z8⟩) ⟨⟨W2, HBT.out⟩, rfl⟩ ?_
          case z8 => intro w1 hS; (first | rfl | (go_simp <;> with_reducible rfl) | go_simp)
          simp only [Act.put, List.setIfInBounds_toArray, List.set_cons_zero, List.set_cons_succ]
          refine wpK_take (i := 9) (v := .bool false) (by kernel_rfl) rfl (by omega) (by kernel_rfl) (by kernel_rfl) (fun _ _ _ h => h) (Or.inl ⟨by rfl, ?z9⟩) ⟨⟨W2, HBT.out⟩, rfl⟩ ?_
          case z9 => intro w1 hS; (first | rfl | (go_simp <;> with_reducible rfl) | go_simp)
          simp only [Act.put, List.setIfInBounds_toArray, List.set_cons_zero, List.set_cons_succ]
          have r0 : W2.cell? ⟨bx, 0, none⟩ = some (.int .i64 0) := HTT.out.lo
          have r1 : W2.cell? ⟨bx, 1, none⟩ = some (.int .i64 0) := HTT.out.hi
          have r2 := HTT.out.fz
          refine wpK_one 11 rfl (by omega) (by kernel_rfl) ?_
          go_wp2_with fail
          refine ⟨⟨⟨_, (HBT.out.setCell (by exact HGB.out) _).setCell (by exact HGB.out) _⟩, rfl⟩, wpK_done (by kernel_rfl) ?_⟩
          simp only [List.drop_succ_cons, List.drop_zero]
          go_upto_region 11 with fail
          refine wp_rebase _ (fun V5 hV5 x5 => ?_)
          have HT5 := Lib.hid (show TwoBox V5 bx (0, 0) by rw [hV5]; exact HTT.out.set (0, 0))
          have HB5 := Lib.hid (show Below V8.heap.size V8 V5 by rw [hV5]; exact (HBT.out.setCell (by exact HGB.out) _).setCell (by exact HGB.out) _)
          have HBX := Lib.hid (show Below V.heap.size V x5.w from below_next HB8.out (below_next HB5.out x5.2))
          have HI5 := Lib.hid (show TwoBox x5.w bs (cl, ch) from HI.out.bel (⟨x5.w, below_next HB5.out x5.2⟩ : BelW V8))
          have h0 : x5.w.cell? ⟨bx, 0, none⟩ = some (.int .i64 (0)) := (HT5.out.bel x5).lo
          have h1 : x5.w.cell? ⟨bx, 1, none⟩ = some (.int .i64 (0)) := (HT5.out.bel x5).hi
          have h2 : x5.w.cell? ⟨bs, 0, none⟩ = some (.int .i64 cl) := HI5.out.lo
          have h3 : x5.w.cell? ⟨bs, 1, none⟩ = some (.int .i64 ch) := HI5.out.hi
          have h4 := HI5.out.fz
          have HNO := Lib.hid (show ¬ (bo = true ∧ br = true ∧ max cl rlo ≤ min ch rhi) → CeR V bs G radar p rs i (.int .i64 ((m : Int) + 1)) x5.w from fun hno => ⟨m + 1, by omega, by go_num, ⟨x5.w, HBX.out⟩, rfl, by rw [HSTEP.out, if_neg hno]; exact HI5.out⟩)
          clear hV5 r0 r1 r2 e0 e1 e2 e3 f0 f1 hE
          cases bo
          · have HX := Lib.hid (HNO.out (fun h => by simp at h))
            go_wp2_with fail
            go_roundw
            case rel => exact HX.out
            case measure => simp [intOf]; omega
          · cases br
            · have HX := Lib.hid (HNO.out (fun h => by simp at h))
              go_wp2_with fail
              go_roundw
              case rel => exact HX.out
              case measure => simp [intOf]; omega
            · have HX := Lib.hid (HNO.out (fun h => by have := h.2.2; omega))
              go_wp2_with fail
              go_roundw
              case rel => exact HX.out
              case measure => simp [intOf]; omega
    · have i5 : decide ((m : Int) < (rs.length : Int)) = false := decide_eq_false (by omega)
      obtain rfl : m = rs.length := by omega
      rw [List.take_length, HT.out] at hI
      have hR1 := HRES.out.bel y
      have g0 : y.w.cell? ⟨bs, 0, none⟩ = some (.int .i64 tl) := hI.lo
      have g1 : y.w.cell? ⟨bs, 1, none⟩ = some (.int .i64 th) := hI.hi
      have r0 : y.w.cell? ⟨w.heap.size + 1, 0, none⟩ = some (.int .i64 0) := hR1.lo
      have r1 : y.w.cell? ⟨w.heap.size + 1, 1, none⟩ = some (.int .i64 0) := hR1.hi
      have r2 := hR1.fz
      have HB := Lib.hid (show Below w.heap.size w y.w from below_next HB0.out y.2)
      clear hI hR1
      go_wp2_with fail
      refine bodyPost_ret (v := .agg #[.int .i64 tl, .int .i64 th]) ?_ rfl ⟨rfl, (HB.out.setCell (by simp) _).setCell (by simp) _⟩
      simp [results, Try.results29, go_sem, r0, r1]

theorem cell26_any (GA RA SA : Option Addr) (gc rc sc : Nat) (G : List Gg) (radar : List Int) (rs : List Rg) (cn p : Int) (i : Nat) (d0 d1 d3 d4 d5 d7 d8 d9 d10 : Value) (hrn : radar.length ≤ 9223372036854775807) (hsn : rs.length ≤ 9223372036854775807) (hgn : G.length ≤ 9223372036854775807) (hin : i ≤ 1000) (hp : Fit p) (w : World)
    (hG : Rd w GA (ggCells G)) (hR : Rd w RA (ints radar)) (hS : Rd w SA (rgCells rs)) :
    Calls Try.prog 29 #[.agg #[d0, d1, .int .i64 cn, d3, d4, d5, .slice GA G.length gc, d7, d8, d9, d10], .slice RA radar.length rc, .int .i64 p, .slice SA rs.length sc, .int .i64 (i : Int)] w fun e w' => e = .returned (.agg #[.int .i64 (cellAt G radar p rs i).1, .int .i64 (cellAt G radar p rs i).2]) ∧ Below w.heap.size w w' := by
  by_cases hri : i < radar.length
  · exact cell26_in GA RA SA gc rc sc G radar rs cn p i d0 d1 d3 d4 d5 d7 d8 d9 d10 hrn hsn hgn hin hp w hri hG hR hS
  · exact cell26_out GA RA SA gc rc sc G radar rs cn p i d0 d1 d3 d4 d5 d7 d8 d9 d10 hrn hsn hgn hin hp w hri hG hR hS

theorem cells_snoc (G : List Gg) (radar : List Int) (p : Int) (rs : List Rg) (n : Nat) : spCells (cellsL G radar p rs (n + 1)) = spCells (cellsL G radar p rs n) ++ [.int .i64 (cellAt G radar p rs n).1, .int .i64 (cellAt G radar p rs n).2] := by
  unfold cellsL
  rw [List.range_succ, List.map_append, spCells_append]
  rfl
theorem cellN_lt {c : Int} {k : Nat} : k < cellN c ↔ (k : Int) < c ∧ (k : Int) < 64 := by unfold cellN; omega
def CsR (V : World) (G : List Gg) (radar : List Int) (p : Int) (rs : List Rg) (n : Nat) (s9 s10 : Value) (wr : World) : Prop := ∃ k : Nat, k ≤ n ∧ s10 = .int .i64 (k : Int) ∧ ∃ y : BelW V, wr = y.w ∧ y.w.ownsRow V.heap.size 40 2 s9 k (spCells (cellsL G radar p rs k))

set_option maxHeartbeats 32000000 in
set_option maxRecDepth 100000 in
theorem refcells_any (GA RA SA : Option Addr) (gc rc sc : Nat) (G : List Gg) (radar : List Int) (rs : List Rg) (cn p : Int) (d0 d1 d3 d4 d5 d7 d8 d9 d10 : Value) (hrn : radar.length ≤ 9223372036854775807) (hsn : rs.length ≤ 9223372036854775807) (hgn : G.length ≤ 9223372036854775807) (hp : Fit p) (w : World)
    (hG : Rd w GA (ggCells G)) (hR : Rd w RA (ints radar)) (hS : Rd w SA (rgCells rs)) :
    Calls Try.prog 12 #[.agg #[d0, d1, .int .i64 cn, d3, d4, d5, .slice GA G.length gc, d7, d8, d9, d10], .slice RA radar.length rc, .int .i64 p, .slice SA rs.length sc] w (SpPost (cellsL G radar p rs (cellN cn)) w) := by
  obtain ⟨i0, hi0, hz0, hz1, hz2⟩ := info_parts info_span
  have INF := Lib.hid (And.intro hi0 (And.intro hz0 (And.intro hz1 hz2)))
  have HN := Lib.hid (cellN_clamp cn).2
  have HLT := Lib.hid (fun k => cellN_lt (c := cn) (k := k))
  obtain ⟨n, hn⟩ : ∃ n, cellN cn = n := ⟨_, rfl⟩
  rw [hn] at HN HLT ⊢
  clear hn hi0 hz0 hz1 hz2
  go_enter Try.func12, Try.ntmps12
  go_upto_region 1 with fail
  refine wp_rebase _ (fun V hV x0 => ?_)
  have HB0 := Lib.hid (show Below w.heap.size w V by rw [hV]; exact bel_alloc (Below.refl _ _) _)
  have HBAS := Lib.hid (show V.rangeAt w.heap.size 0 [d0, d1, .int .i64 cn, d3, d4, d5, .slice GA G.length gc, d7, d8, d9, d10] by rw [hV]; exact range_new _ _ [d0, d1, .int .i64 cn, d3, d4, d5, .slice GA G.length gc, d7, d8, d9, d10])
  have HG := Lib.hid (hG.below (Nat.le_refl _) HB0.out)
  have HR := Lib.hid (hR.below (Nat.le_refl _) HB0.out)
  have HS := Lib.hid (hS.below (Nat.le_refl _) HB0.out)
  have HPF := Lib.hid hp
  clear hV hG hR hS hp
  go_wp2_with fail
  go_loopw [9, 10] (fun s9 s10 wr => CsR V G radar p rs n s9 s10 wr) (fun _ i _ => n - (intOf i).toNat)
  case atStart => exact ⟨0, by omega, rfl, x0, rfl, World.ownsRow_nil _ _ _ _⟩
  case round =>
    obtain ⟨k, hk, rfl, y, rfl, hown⟩ := hrel
    have c2 := BelW.cells (show V.cell? ⟨w.heap.size, 2, none⟩ = some (.int .i64 cn) from HBAS.out 2 _ rfl) y
    have hn64 := HN.out
    by_cases hlt : k < n
    · obtain ⟨h1, h2⟩ := (HLT.out k).1 hlt
      have t1 : decide ((k : Int) < cn) = true := decide_eq_true h1
      have t2 : decide ((k : Int) < 64) = true := decide_eq_true h2
      have HO := Lib.hid hown
      have HTT := Lib.hid (cells_snoc G radar p rs k)
      have HRX := Lib.hid (BelW.range HBAS.out y)
      have HMX := Lib.hid (show k + 1 ≤ maxLen ∧ (k + 1) * 16 ≤ 140737488355328 by have := HN.out; unfold maxLen; constructor <;> omega)
      have CC := Lib.hid (fun z : BelW V => cell26_any GA RA SA gc rc sc G radar rs cn p k d0 d1 d3 d4 d5 d7 d8 d9 d10 hrn hsn hgn (by have := HN.out; omega) HPF.out z.w (HG.out.bel z) (HR.out.bel z) (HS.out.bel z))
      obtain ⟨c, hc⟩ : ∃ c, cellAt G radar p rs k = c := ⟨_, rfl⟩
      rw [hc] at CC HTT
      obtain ⟨lo, hi⟩ := c
      clear hown h1 h2 hc
      go_wp2_with (first
        | (with_reducible refine wpList_load_g 31 _ (by with_reducible rfl) _ _ (by with_unfolding_all rfl) (by with_unfolding_all rfl) _ _ HRX.out Try.underlying31 (by with_unfolding_all rfl) (by kernel_rfl) ?_)
        | (go_at_call 29; (with_reducible refine (CC.out _).mono ?_); rintro e w2 ⟨rfl, hbz⟩)
        | (at_builtin; refine wpList_append_lies _ rfl _ _ _ (by rfl) V.heap.size 40 i0 _ 2 16 Try.underlying33 INF.out.1 INF.out.2.1 INF.out.2.2.1 INF.out.2.2.2 rfl (by omega) _ k (spCells (cellsL G radar p rs k)) (by rfl) ((own_below HO.out hbz).alloc _) ⟨w2.heap.size, 0, none⟩ 1 1 [.int .i64 lo, .int .i64 hi] (by rfl) (by rfl) (World.news_of_block (heap_alloc_new _ _)) (by simp [Value.oneCell']) (by omega) HMX.out.1 HMX.out.2 (Nat.le_trans (show V.heap.size ≤ w2.heap.size from (below_next y.2 hbz).size) (by simp)) (w2.heap.size + 1) (by simp) ?_))
      intro gg cap w1 hown1 hgrow hat hl1
      have hB1 : Below V.heap.size V w1 := own_grown (bel_alloc (show Below V.heap.size V w2 from below_next y.2 hbz) _) ((own_below HO.out hbz).alloc _) hgrow
      have HN1 := Lib.hid hown1
      have HM := Lib.hid hB1
      clear hown1 hgrow hat hB1
      go_wp2_with fail
      go_roundw
      case rel => exact ⟨k + 1, by omega, by go_num, ⟨w1, HM.out⟩, rfl, by rw [HTT.out]; exact HN1.out⟩
      case measure => simp [intOf]; omega
    · obtain rfl : k = n := by omega
      have HX := Lib.hid (SpPost.of (cellsL_length G radar p rs k) hown HB0.out.size (below_next HB0.out y.2))
      have hno : ¬ ((k : Int) < cn ∧ (k : Int) < 64) := fun h => hlt ((HLT.out k).2 h)
      clear hown
      by_cases h1 : (k : Int) < cn
      · have t1 : decide ((k : Int) < cn) = true := decide_eq_true h1
        have t2 : decide ((k : Int) < 64) = false := decide_eq_false (fun h => hno ⟨h1, h⟩)
        clear hno
        go_wp2_with fail
        go_ret
        exact HX.out
      · have t1 : decide ((k : Int) < cn) = false := decide_eq_false h1
        clear hno
        go_wp2_with fail
        go_ret
        exact HX.out

end Go.Proofs.Ytafnmaojpheppaa
