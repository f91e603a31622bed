/- RainEncloses: the walk. -/
import Derived.Test.YtafnmaojpheppaaOpen26
import Derived.Test.YtafnmaojpheppaaRainL
import Derived.Test.YtafnmaojpheppaaRCell26
import Derived.Test.YtafnmaojpheppaaSmall26
namespace Go.Proofs.Ytafnmaojpheppaa
open Go.RowKit
set_option linter.unusedVariables false
set_option linter.unusedSimpArgs false

/-! what the law asks -/
structure EnOk (G : List Gg) (rs : List Rg) (p m v : Int) (i : Nat) : Prop where
  m1 : 0 ≤ m
  m2 : m ≤ 1099511627776
  v1 : 0 ≤ v
  v2 : v ≤ 2199023255552
  near1 : 1000 * (v - m) ≤ p * v
  near2 : 1000 * (m - v) ≤ p * v
  rd : ∀ r ∈ rs, ofR G r i → r.lo ≤ m ∧ m ≤ r.hi
theorem gi_take {mm : List Int} {n j : Nat} (h : j < n) : gi (mm.take n) j = gi mm j := by
  unfold gi
  rw [List.getD_eq_getElem?_getD, List.getD_eq_getElem?_getD, List.getElem?_take_of_lt h]
theorem enc_cell {G : List Gg} {R mm : List Int} {p : Int} {rs : List Rg} {n i : Nat} (p1 : 0 ≤ p) (p2 : p < 1000) (h : EnOk G rs p (gi mm i) (gi R i) i) (hi : i < n) : InS (gs (cellsL G R p rs n) i) (gi mm i) := by
  rw [cellsL_at _ _ _ _ hi]
  exact cellAt_has (rad_has h.v1 h.v2 p1 p2 h.m1 h.m2 h.near1 h.near2) rs h.rd
theorem enc_mesh {cs : List Sp} {mm : List Int} {n : Nat} (hn : cs.length = n) (hm : n ≤ mm.length) (h : ∀ i, i < n → InS (gs cs i) (gi mm i)) (rain : List Sp) : InS (meshP cs rain) (meshF Prod.fst (exs (mm.take n)) rain) := by
  have hl : (exs (mm.take n)).length = n := by rw [exs_length, List.length_take]; omega
  have hg : ∀ j, j < n → gs (exs (mm.take n)) j = (gi mm j, gi mm j) := fun j hj => by
    rw [exs_at (by rw [List.length_take]; omega), gi_take hj]
  refine ⟨?_, ?_⟩
  · show meshF Prod.fst cs rain ≤ _
    exact meshF_mono (by omega) (fun j hj => by rw [hg j (by omega)]; exact (h j (by omega)).1) rain
  · show _ ≤ meshF Prod.snd cs rain
    exact meshF_mono (by omega) (fun j hj => by rw [hg j (by omega)]; exact (h j (by omega)).2) rain
theorem meshF_fit (f : Sp → Int) (cs rain : List Sp) : Fit (meshF f cs rain) := by
  have := meshS_fit f cs rain
  unfold meshF
  unfold Fit at *
  omega
theorem rangeXo {V : World} {b o : Nat} {cs : List Value} (h : V.rangeAt b o cs) : ∀ w, (∃ y : BelW V, w = y.w) → w.rangeAt b o cs := fun _ ⟨y, e⟩ j v hv => e ▸ BelW.cells (h j v hv) y
theorem ints_snoc (R : List Int) (v : Int) : ints (R ++ [v]) = ints R ++ [.int .i64 v] := by simp [ints]
theorem gi_snoc (R : List Int) (v : Int) (i : Nat) : gi (R ++ [v]) i = if i < R.length then gi R i else if i = R.length then v else 0 := by
  unfold gi
  by_cases h : i < R.length
  · rw [if_pos h, List.getD_eq_getElem?_getD, List.getD_eq_getElem?_getD, List.getElem?_append_left h]
  · rw [if_neg h]
    by_cases h2 : i = R.length
    · subst h2; simp
    · rw [if_neg h2, List.getD_eq_getElem?_getD, List.getElem?_eq_none (by simp; omega)]; rfl
def EnR (V : World) (G : List Gg) (rs : List Rg) (p : Int) (mm : List Int) (s13 s14 : Value) (wr : World) : Prop := ∃ (k : Nat) (R : List Int), k ≤ mm.length ∧ R.length = k ∧ s14 = .int .i64 (k : Int) ∧ Hid (∀ i, i < k → EnOk G rs p (gi mm i) (gi R i) i) ∧ ∃ y : BelW V, wr = y.w ∧ y.w.ownsRow V.heap.size 3 1 s13 k (ints R)
def EnI (Q : World) (G : List Gg) (rs : List Rg) (m : Int) (k : Nat) (s16 : Value) (wr : World) : Prop := ∃ j : Nat, j ≤ rs.length ∧ s16 = .int .i64 (j : Int) ∧ Hid (∀ i, i < j → ofR G (rg rs i) k → (rg rs i).lo ≤ m ∧ m ≤ (rg rs i).hi) ∧ ∃ z : BelW Q, wr = z.w
def EnC (Q : World) (n : Nat) (s19 : Value) (wr : World) : Prop := ∃ k : Nat, k ≤ n ∧ s19 = .int .i64 (k : Int) ∧ ∃ y : BelW Q, wr = y.w
def EnT (Q : World) (ms : List Sp) (s21 s22 : Value) (wr : World) : Prop := ∃ (k : Nat) (t : Int), k ≤ ms.length ∧ s22 = .int .i64 (k : Int) ∧ s21 = .int .i64 t ∧ Hid (InS (sumL (ms.take k)) t ∧ Fit t) ∧ ∃ y : BelW Q, wr = y.w
theorem has_eq {lo hi n : Int} {b : Bool} (h : (decide (lo ≤ n) && decide (n ≤ hi)) = b) (w : World) : Calls Try.prog 20 #[.agg #[.int .i64 lo, .int .i64 hi], .int .i64 n] w fun e w' => e = .returned (.bool b) ∧ Below w.heap.size w w' := h ▸ has_any lo hi n w

set_option maxHeartbeats 64000000 in
set_option maxRecDepth 100000 in
theorem enc26_any (d0 d1 : Value) (cn : Int) (B : Option Addr) (cb : Nat) (ps : List Pr) (d4 d5 : Value) (GA : Option Addr) (gc : Nat) (G : List Gg) (d7 d8 d9 d10 : Value) (MA : Option Addr) (mc : Nat) (mm : List Int) (OA : Option Addr) (oc : Nat) (off : List Int) (p : Int) (SA : Option Addr) (sc : Nat) (rs : List Rg)
    (hp : Fit p) (hmn : mm.length ≤ 9223372036854775807) (hmc : mm.length ≤ mc) (hMA : MA = none → mc = 0) (hon : off.length ≤ 9223372036854775807) (hof : ∀ x ∈ off, Fit x) (hsn : rs.length ≤ 9223372036854775807) (hok : ∀ r ∈ rs, RgOk r) (w : World) (hB : Bas w cn B ps GA G) (hM : Rd w MA (ints mm)) (hO : Rd w OA (ints off)) (hS : Rd w SA (rgCells rs)) :
    Calls Try.prog 4 #[.agg #[d0, d1, .int .i64 cn, .slice B ps.length cb, d4, d5, .slice GA G.length gc, d7, d8, d9, d10], .slice MA mm.length mc, .slice OA off.length oc, .int .i64 p, .slice SA rs.length sc] w fun e w' => e = .returned (.bool true) ∧ Below w.heap.size w w' := by
  obtain ⟨i0, hi0, hz0, hz1, hz2⟩ := info_parts info_int2
  have INF := Lib.hid (And.intro hi0 (And.intro hz0 (And.intro hz1 hz2)))
  clear hi0 hz0 hz1 hz2
  go_enter Try.func4, Try.ntmps4
  go_upto_region 1 with fail
  refine wp_rebase _ (fun V hV x0 => ?_)
  have HB0 := Lib.hid (show Below w.heap.size w V by rw [hV]; exact bel_alloc (Below.refl _ _) _)
  have HBAS := Lib.hid (show V.rangeAt w.heap.size 0 [d0, d1, .int .i64 cn, .slice B ps.length cb, d4, d5, .slice GA G.length gc, d7, d8, d9, d10] by rw [hV]; exact range_new _ _ [d0, d1, .int .i64 cn, .slice B ps.length cb, d4, d5, .slice GA G.length gc, d7, d8, d9, d10])
  have HB := Lib.hid (hB.below (Nat.le_refl _) HB0.out)
  have HM := Lib.hid (hM.below (Nat.le_refl _) HB0.out)
  have HO := Lib.hid (hO.below (Nat.le_refl _) HB0.out)
  have HS := Lib.hid (hS.below (Nat.le_refl _) HB0.out)
  have HF := Lib.hid (And.intro hof (And.intro hok (And.intro hMA hmc)))
  have CSm := Lib.hid (fun z : BelW V => bel_of (small_any z.w))
  have CFew := Lib.hid (fun z : BelW V => bel_of (few_any B SA none cb sc 0 rs.length 0 ps d0 d1 (.int .i64 cn) d4 d5 (.slice GA G.length gc) d7 d8 d9 d10 HB.out.pn z.w (HB.out.bel z).psm))
  have c2 : ∀ z : BelW V, z.w.cell? ⟨w.heap.size, 2, none⟩ = some (.int .i64 cn) := fun z => BelW.range HBAS.out z 2 _ rfl
  clear hV hB hM hO hS hof hok hMA hmc
  go_upto_region 2 with (first | (go_at_call 8; (with_reducible refine (CSm.out _).mono ?_); rintro e w' ⟨rfl, y1, rfl⟩))
  have HRX := Lib.hid (BelW.range HBAS.out y1)
  clear CSm
  by_cases hf : fewP ps rs.length 0
  case neg =>
    rw [fewB_no hf] at CFew
    clear hf
    go_wp2_with (first | (with_reducible refine wpList_load_g 31 _ (by with_reducible rfl) _ _ (by with_unfolding_all rfl) (by with_unfolding_all rfl) _ _ HRX.out Try.underlying31 (by with_unfolding_all rfl) (by kernel_rfl) ?_) | (go_at_call 9; (with_reducible refine (CFew.out _).mono ?_); rintro e w' ⟨rfl, y2, rfl⟩))
    go_ret
    exact ⟨rfl, below_next HB0.out y2.2⟩
  rw [fewB_iff.2 hf] at CFew
  have HPN := Lib.hid (show ps.length ≤ 1000 ∧ (∀ x ∈ ps, x.rain.length ≤ 1000) ∧ rs.length ≤ 60 from ⟨by have := hf.1; omega, fun x hx => by have := hf.2.2.2 x hx; omega, hf.2.1⟩)
  clear hf
  by_cases a1 : 64 < mm.length
  · have ta1 : decide ((64 : Int) < (mm.length : Int)) = true := decide_eq_true (by omega)
    clear a1
    go_wp2_with (first | (with_reducible refine wpList_load_g 31 _ (by with_reducible rfl) _ _ (by with_unfolding_all rfl) (by with_unfolding_all rfl) _ _ HRX.out Try.underlying31 (by with_unfolding_all rfl) (by kernel_rfl) ?_) | (go_at_call 9; (with_reducible refine (CFew.out _).mono ?_); rintro e w' ⟨rfl, y2, rfl⟩))
    go_ret
    exact ⟨rfl, below_next HB0.out y2.2⟩
  have ta1 : decide ((64 : Int) < (mm.length : Int)) = false := decide_eq_false (by omega)
  by_cases a2 : (mm.length : Int) < cn
  · have ta2 : decide ((mm.length : Int) < cn) = true := decide_eq_true (a2)
    clear a2
    go_wp2_with (first | (with_reducible refine wpList_load_g 31 _ (by with_reducible rfl) _ _ (by with_unfolding_all rfl) (by with_unfolding_all rfl) _ _ HRX.out Try.underlying31 (by with_unfolding_all rfl) (by kernel_rfl) ?_) | (go_at_call 9; (with_reducible refine (CFew.out _).mono ?_); rintro e w' ⟨rfl, y2, rfl⟩))
    go_ret
    exact ⟨rfl, below_next HB0.out y2.2⟩
  have ta2 : decide ((mm.length : Int) < cn) = false := decide_eq_false (by omega)
  by_cases a3 : p < 0
  · have ta3 : decide (p < 0) = true := decide_eq_true (a3)
    clear a3
    go_wp2_with (first | (with_reducible refine wpList_load_g 31 _ (by with_reducible rfl) _ _ (by with_unfolding_all rfl) (by with_unfolding_all rfl) _ _ HRX.out Try.underlying31 (by with_unfolding_all rfl) (by kernel_rfl) ?_) | (go_at_call 9; (with_reducible refine (CFew.out _).mono ?_); rintro e w' ⟨rfl, y2, rfl⟩))
    go_ret
    exact ⟨rfl, below_next HB0.out y2.2⟩
  have ta3 : decide (p < 0) = false := decide_eq_false (by omega)
  by_cases a4 : 1000 ≤ p
  · have ta4 : decide (1000 ≤ p) = true := decide_eq_true (a4)
    clear a4
    go_wp2_with (first | (with_reducible refine wpList_load_g 31 _ (by with_reducible rfl) _ _ (by with_unfolding_all rfl) (by with_unfolding_all rfl) _ _ HRX.out Try.underlying31 (by with_unfolding_all rfl) (by kernel_rfl) ?_) | (go_at_call 9; (with_reducible refine (CFew.out _).mono ?_); rintro e w' ⟨rfl, y2, rfl⟩))
    go_ret
    exact ⟨rfl, below_next HB0.out y2.2⟩
  have ta4 : decide (1000 ≤ p) = false := decide_eq_false (by omega)
  have HL := Lib.hid (And.intro (show mm.length ≤ 64 by omega) (And.intro (show cn ≤ (mm.length : Int) by omega) (And.intro (show 0 ≤ p by omega) (show p < 1000 by omega))))
  clear a1 a2 a3 a4
  go_upto_region 7 with (first | (with_reducible refine wpList_load_g 31 _ (by with_reducible rfl) _ _ (by with_unfolding_all rfl) (by with_unfolding_all rfl) _ _ HRX.out Try.underlying31 (by with_unfolding_all rfl) (by kernel_rfl) ?_) | (go_at_call 9; (with_reducible refine (CFew.out _).mono ?_); rintro e w' ⟨rfl, y2, rfl⟩))
  clear CFew HRX c2
  go_wp2_with fail
  go_loopw [13, 14] (fun s13 s14 wr => EnR V G rs p mm s13 s14 wr) (fun _ i _ => mm.length - (intOf i).toNat)
  case atStart => exact ⟨0, [], by omega, rfl, rfl, Lib.hid (fun i hi => absurd hi (Nat.not_lt_zero _)), y2, rfl, World.ownsRow_nil _ _ _ _⟩
  case round =>
    clear y2
    obtain ⟨k, R, hk, hR, rfl, hbd, y, rfl, hown⟩ := hrel
    have h64 := HL.out.1
    have HEX := Lib.hid (below_next HB0.out y.2)
    have HO13 := Lib.hid hown
    have HRL := Lib.hid hR
    have HBD := Lib.hid hbd.out
    clear hown hR hbd
    by_cases hlt : k < mm.length
    · have i4 : decide ((k : Int) < (mm.length : Int)) = true := decide_eq_true (by omega)
      have j1 : (0 : Int) ≤ (k : Int) := by omega
      have j2 : (k : Int) < (mm.length : Int) := by omega
      obtain ⟨md, rfl, e1⟩ := rd_row (HM.out.bel y) hlt
      have HMK := Lib.hid (fun (W : World) (hb : Below V.heap.size V W) => (show W.cell? (md.add k) = some (.int .i64 (gi mm k)) from by
        obtain ⟨md', e', f⟩ := rd_row (HM.out.below (Nat.le_refl _) hb) hlt
        cases e'
        exact f))
      obtain ⟨m, hm⟩ : ∃ m, gi mm k = m := ⟨_, rfl⟩
      rw [hm] at e1 HMK
      have HMM := Lib.hid hm
      clear hm
      by_cases b1 : m < 0
      · have u1 : decide (m < 0) = true := decide_eq_true b1
        clear b1
        go_wp2_with fail
        go_ret
        exact ⟨rfl, HEX.out⟩
      have u1 : decide (m < 0) = false := decide_eq_false b1
      by_cases b2 : 1099511627776 < m
      · have u2 : decide (1099511627776 < m) = true := decide_eq_true b2
        clear b1 b2
        go_wp2_with fail
        go_ret
        exact ⟨rfl, HEX.out⟩
      have u2 : decide (1099511627776 < m) = false := decide_eq_false b2
      have HMB := Lib.hid (And.intro (show 0 ≤ m by omega) (show m ≤ 1099511627776 by omega))
      have HMX := Lib.hid (show k + 1 ≤ maxLen ∧ (k + 1) * 8 ≤ 140737488355328 by unfold maxLen; constructor <;> omega)
      have hrs := HPN.out.2.2
      clear b1 b2
      by_cases ho : k < off.length
      · have t6 : decide ((k : Int) < (off.length : Int)) = true := decide_eq_true (by omega)
        have j3 : (k : Int) < (off.length : Int) := by omega
        obtain ⟨fd, rfl, e2⟩ := rd_row (HO.out.bel y) ho
        have hfo := HF.out.1 off[k] (List.getElem_mem ho)
        have hfe : gi off k = off[k] := by simp [gi, List.getD, ho]
        rw [← hfe] at hfo
        obtain ⟨u, hu⟩ : ∃ u, gi off k = u := ⟨_, rfl⟩
        rw [hu] at e2 hfo
        have CA := Lib.hid (fun W => add_any m u (by have := HMB.out; omega) (by have := HMB.out; omega) hfo.1 hfo.2 W)
        obtain ⟨su, hsu⟩ : ∃ s, Xa.add m u = s := ⟨_, rfl⟩
        rw [hsu] at CA
        have CC := Lib.hid (fun W => clamp_any su 0 2199023255552 W)
        have hcl : 0 ≤ Xa.clamp su 0 2199023255552 ∧ Xa.clamp su 0 2199023255552 ≤ 2199023255552 := by unfold Xa.clamp; split <;> (try split) <;> omega
        obtain ⟨v, hv⟩ : ∃ v, Xa.clamp su 0 2199023255552 = v := ⟨_, rfl⟩
        rw [hv] at CC hcl
        have HVB := Lib.hid hcl
        clear hfo hfe hu hsu hv hcl
        go_upto_region 14 with (first | (go_at_call 18; (with_reducible refine (CA.out _).mono ?_); rintro e w' ⟨rfl, rfl⟩) | (go_at_call 17; (with_reducible refine (CC.out _).mono ?_); rintro e w' ⟨rfl, rfl⟩))
        refine wp_rebase _ (fun X hX x1w => ?_)
        have HBX := Lib.hid (show Below V.heap.size V X by rw [hX]; exact y.2)
        have HOX := Lib.hid (show X.ownsRow V.heap.size 3 1 u13 k (ints R) by rw [hX]; exact HO13.out)
        have mk0 := fun z : BelW X => (show z.w.cell? (md.add k) = some (.int .i64 m) from HMK.out z.w (below_next HBX.out z.2))
        clear hX e1 e2 CA CC HO13
        obtain ⟨x5, hx5⟩ : ∃ x, p * v = x := ⟨_, rfl⟩
        have hx5b : 0 ≤ x5 ∧ x5 ≤ 2199023255552000 := by
          rw [← hx5]
          exact ⟨Int.mul_nonneg HL.out.2.2.1 HVB.out.1, Int.le_trans (Int.mul_le_mul_of_nonneg_right (show p ≤ 1000 by have := HL.out.2.2.2; omega) HVB.out.1) (by have := HVB.out.2; omega)⟩
        obtain ⟨x1, hx1⟩ : ∃ x, v - m = x := ⟨_, rfl⟩
        obtain ⟨x2, hx2⟩ : ∃ x, m - v = x := ⟨_, rfl⟩
        obtain ⟨x3, hx3⟩ : ∃ x, max x1 x2 = x := ⟨_, rfl⟩
        obtain ⟨x4, hx4⟩ : ∃ x, 1000 * x3 = x := ⟨_, rfl⟩
        have hvb := HVB.out
        have hmb := HMB.out
        have wr1 : IntKind.i64.wrap x1 = x1 := IntWalk.i64_in _ (by omega)
        have wr2 : IntKind.i64.wrap x2 = x2 := IntWalk.i64_in _ (by omega)
        have wr4 : IntKind.i64.wrap x4 = x4 := IntWalk.i64_in _ (by omega)
        have wr5 : IntKind.i64.wrap x5 = x5 := IntWalk.i64_in _ (by omega)
        have HQX := Lib.hid (And.intro (show p * v = x5 from hx5) (And.intro (show x4 ≤ x5 → 1000 * (v - m) ≤ x5 ∧ 1000 * (m - v) ≤ x5 from fun h => by omega) hx5b))
        clear hx5b hvb hmb
        by_cases c9 : x5 < x4
        · have t9 : decide (x5 < x4) = true := decide_eq_true c9
          have HV := Lib.hid (show 0 ≤ m ∧ m ≤ 2199023255552 ∧ 1000 * (m - m) ≤ p * m ∧ 1000 * (m - m) ≤ p * m from by
            have h1 := HMB.out
            have h2 : 0 ≤ p * m := Int.mul_nonneg HL.out.2.2.1 h1.1
            refine ⟨h1.1, by omega, ?_, ?_⟩ <;> omega)
          clear c9
          go_upto_region 14 with fail
          refine wp_region_belx (by kernel_rfl) (by kernel_rfl) ?_
          repeat (go_big_quiet_step (fail))
          refine wpQuiet_nil ?_
          intro y5
          have HOW := Lib.hid (own_below (u' := y5.w) HOX.out y5.2)
          have HBW := Lib.hid (show Below V.heap.size V y5.w from below_next HBX.out y5.2)
          clear wr1 wr2 wr4 wr5 hx1 hx2 hx3 hx4 hx5 mk0
          have e5 := HMK.out y5.w HBW.out
          go_upto_region 16 with fail
          go_wp2_with (first | (at_builtin; refine wpList_append_lies _ rfl _ _ _ (by rfl) V.heap.size 3 i0 _ 1 8 Try.underlying29 INF.out.1 INF.out.2.1 INF.out.2.2.1 INF.out.2.2.2 rfl (by omega) _ k (ints R) (by rfl) (HOW.out.alloc _) ⟨y5.w.heap.size, 0, none⟩ 1 1 [.int .i64 m] (by rfl) (by rfl) (World.news_of_block (heap_alloc_new _ _)) (by simp [Value.oneCell']) (by omega) HMX.out.1 HMX.out.2 (Nat.le_trans HBW.out.size (by simp)) (y5.w.heap.size + 1) (by simp) ?_))
          intro g1 cap1 w3 hown3 hgrow3 hat3 hl3
          have HB3 := Lib.hid (show Below V.heap.size V w3 from own_grown (bel_alloc HBW.out _) (HOW.out.alloc _) hgrow3)
          have HO3 := Lib.hid (show w3.ownsRow V.heap.size 3 1 (.slice (some ⟨g1, 0, none⟩) (k + 1) cap1) (k + 1) (ints (R ++ [m])) by rw [ints_snoc]; exact hown3)
          clear hown3 hgrow3 hat3 HOW HBW
          go_upto_region 17 with fail
          refine wp_rebase _ (fun Q hQ q0 => ?_)
          have HBQ := Lib.hid (show Below V.heap.size V Q by rw [hQ]; exact HB3.out)
          have HOQ := Lib.hid (show Q.ownsRow V.heap.size 3 1 (.slice (some ⟨g1, 0, none⟩) (k + 1) cap1) (k + 1) (ints (R ++ [m])) by rw [hQ]; exact HO3.out)
          have HRQ := Lib.hid (show Q.rangeAt w.heap.size 0 [d0, d1, .int .i64 cn, .slice B ps.length cb, d4, d5, .slice GA G.length gc, d7, d8, d9, d10] from BelW.range HBAS.out ⟨Q, HBQ.out⟩)
          have mk := fun z : BelW Q => (show z.w.cell? (md.add k) = some (.int .i64 m) from HMK.out z.w (below_next HBQ.out z.2))
          clear hQ HB3 HO3
          go_wp2_with fail
          go_loopw [16] (fun s16 wr => EnI Q G rs m k s16 wr) (fun i _ => rs.length - (intOf i).toNat)
          case atStart => exact ⟨0, by omega, rfl, Lib.hid (fun i hi => absurd hi (Nat.not_lt_zero _)), q0, rfl⟩
          case round =>
            clear q0
            obtain ⟨j, hj, rfl, hin, z, rfl⟩ := hrel
            have HIN := Lib.hid hin.out
            clear hin
            by_cases hlj : j < rs.length
            · have i6 : decide ((j : Int) < (rs.length : Int)) = true := decide_eq_true (by omega)
              have n1 : (0 : Int) ≤ (j : Int) := by omega
              have n2 : (j : Int) < (rs.length : Int) := by omega
              obtain ⟨sd, sb, so, rfl, -, hE, hrg⟩ := (HS.out.below (Nat.le_refl _) HBQ.out).reading hlj
              have HINX := Lib.hid (fun h : (ofR G (rg rs j) k → (rg rs j).lo ≤ m ∧ m ≤ (rg rs j).hi) => (show ∀ i, i < j + 1 → ofR G (rg rs i) k → (rg rs i).lo ≤ m ∧ m ≤ (rg rs i).hi from fun i hi => by
                by_cases e : i = j
                · subst e; exact h
                · exact HIN.out i (by omega)))
              obtain ⟨r, hr⟩ : ∃ r, rg rs j = r := ⟨_, rfl⟩
              rw [hr] at hrg HINX
              clear hr
              obtain ⟨rg0, rhr, rlo, rhi⟩ := r
              have f0 := fun z : BelW Q => (show z.w.cell? ⟨sb, so, none⟩ = some (.int .i64 rg0) from BelW.cells (hrg 0 _ rfl) z)
              have f1 := fun z : BelW Q => (show z.w.cell? ⟨sb, so + 1, none⟩ = some (.int .i64 rhr) from BelW.cells (hrg 1 _ rfl) z)
              have f2 := fun z : BelW Q => (show z.w.cell? ⟨sb, so + 2, none⟩ = some (.int .i64 rlo) from BelW.cells (hrg 2 _ rfl) z)
              have f3 := fun z : BelW Q => (show z.w.cell? ⟨sb, so + 3, none⟩ = some (.int .i64 rhi) from BelW.cells (hrg 3 _ rfl) z)
              have COf := Lib.hid (fun z : BelW Q => bel_of (of26_any GA gc G cn d0 d1 (.slice B ps.length cb) d4 d5 d7 d8 d9 d10 HB.out.gn rg0 rhr rlo rhi k z.w ((HB.out.gm.below (Nat.le_refl _) HBQ.out).bel z)))
              obtain ⟨bo, hbo⟩ : ∃ b, decide (ofR G ⟨rg0, rhr, rlo, rhi⟩ k) = b := ⟨_, rfl⟩
              rw [hbo] at COf
              have HBO := Lib.hid (decide_of hbo)
              obtain ⟨bh, hbh⟩ : ∃ b, (decide (rlo ≤ m) && decide (m ≤ rhi)) = b := ⟨_, rfl⟩
              have CH := Lib.hid (fun z : BelW Q => bel_of (has_eq hbh z.w))
              have HBH := Lib.hid (show bh = true → rlo ≤ m ∧ m ≤ rhi from fun h => by rw [h] at hbh; simpa using hbh)
              have HEQ := Lib.hid (show ∀ z : BelW Q, Below w.heap.size w z.w from fun z => below_next HB0.out (below_next HBQ.out z.2))
              clear hrg hbo hbh
              go_upto_region 20 with fail
              refine wp_region_belx (by kernel_rfl) (by kernel_rfl) ?_
              repeat (first
                | (with_reducible refine wpQuiet_load_g 31 _ (by with_reducible rfl) _ _ (by with_unfolding_all rfl) (by with_unfolding_all rfl) _ _ (rangeX HRQ.out) Try.underlying31 (by with_unfolding_all rfl) (by kernel_rfl) ?_; simp only [Act.put, List.setIfInBounds_toArray, List.set_cons_succ, List.set_cons_zero])
                | go_big_quiet_step ((first | (go_at_call 19; with_reducible exact COf.out _))))
              refine wpQuiet_nil ?_
              intro z8
              cases bo
              · have HX := Lib.hid (HINX.out (fun h => by have := HBO.out.1 h; exact absurd this (by decide)))
                go_upto_region 21 with fail
                refine wp_region_belx (by kernel_rfl) (by kernel_rfl) ?_
                repeat (go_big_quiet_step (fail))
                refine wpQuiet_nil ?_
                intro z9
                clear f0 f1 f2 f3 mk hE
                go_wp2_with fail
                go_roundw
                case rel => exact ⟨j + 1, by omega, by go_num, Lib.hid HX.out, z9, rfl⟩
                case measure => simp [intOf]; omega
              · cases bh
                · go_upto_region 21 with fail
                  refine wp_region_belx (by kernel_rfl) (by kernel_rfl) ?_
                  repeat (go_big_quiet_step ((first | (go_at_call 20; with_reducible exact CH.out _))))
                  refine wpQuiet_nil ?_
                  intro z9
                  have HX := Lib.hid (HEQ.out z9)
                  clear f0 f1 f2 f3 mk hE
                  go_wp2_with fail
                  go_ret
                  exact ⟨rfl, HX.out⟩
                · have HX := Lib.hid (HINX.out (fun _ => HBH.out rfl))
                  go_upto_region 21 with fail
                  refine wp_region_belx (by kernel_rfl) (by kernel_rfl) ?_
                  repeat (go_big_quiet_step ((first | (go_at_call 20; with_reducible exact CH.out _))))
                  refine wpQuiet_nil ?_
                  intro z9
                  clear f0 f1 f2 f3 mk hE
                  go_wp2_with fail
                  go_roundw
                  case rel => exact ⟨j + 1, by omega, by go_num, Lib.hid HX.out, z9, rfl⟩
                  case measure => simp [intOf]; omega
            · have i6 : decide ((j : Int) < (rs.length : Int)) = false := decide_eq_false (by omega)
              obtain rfl : j = rs.length := by omega
              have HX := Lib.hid (show ∀ i, i < k + 1 → EnOk G rs p (gi mm i) (gi (R ++ [m]) i) i from fun i hi => by
                rw [gi_snoc, HRL.out]
                by_cases e : i < k
                · rw [if_pos e]; exact HBD.out i e
                · have e2 : i = k := by omega
                  subst e2
                  rw [if_neg e, if_pos rfl, HMM.out]
                  exact ⟨HMB.out.1, HMB.out.2, HV.out.1, HV.out.2.1, HV.out.2.2.1, HV.out.2.2.2, fun r hr h => by
                    obtain ⟨t, ht, rfl⟩ := List.getElem_of_mem hr
                    have := HIN.out t ht
                    rw [rg_at ht] at this
                    exact this h⟩)
              have HOZ := Lib.hid (own_below (u' := z.w) HOQ.out z.2)
              clear mk
              go_wp2_with fail
              go_roundw
              case rel => exact ⟨k + 1, R ++ [m], by omega, by rw [List.length_append, HRL.out]; rfl, by go_num, Lib.hid HX.out, ⟨z.w, below_next HBQ.out z.2⟩, rfl, HOZ.out⟩
              case measure => simp [intOf]; omega
        · have t9 : decide (x5 < x4) = false := decide_eq_false c9
          have HV := Lib.hid (show 0 ≤ v ∧ v ≤ 2199023255552 ∧ 1000 * (v - m) ≤ p * v ∧ 1000 * (m - v) ≤ p * v from by
            have h1 := HVB.out
            have h2 := HQX.out.2.1 (by omega)
            rw [HQX.out.1]
            exact ⟨h1.1, h1.2, h2.1, h2.2⟩)
          clear c9
          go_upto_region 14 with fail
          refine wp_region_belx (by kernel_rfl) (by kernel_rfl) ?_
          repeat (go_big_quiet_step (fail))
          refine wpQuiet_nil ?_
          intro y5
          have HOW := Lib.hid (own_below (u' := y5.w) HOX.out y5.2)
          have HBW := Lib.hid (show Below V.heap.size V y5.w from below_next HBX.out y5.2)
          clear wr1 wr2 wr4 wr5 hx1 hx2 hx3 hx4 hx5 mk0
          go_upto_region 16 with fail
          go_wp2_with (first | (at_builtin; refine wpList_append_lies _ rfl _ _ _ (by rfl) V.heap.size 3 i0 _ 1 8 Try.underlying29 INF.out.1 INF.out.2.1 INF.out.2.2.1 INF.out.2.2.2 rfl (by omega) _ k (ints R) (by rfl) (HOW.out.alloc _) ⟨y5.w.heap.size, 0, none⟩ 1 1 [.int .i64 v] (by rfl) (by rfl) (World.news_of_block (heap_alloc_new _ _)) (by simp [Value.oneCell']) (by omega) HMX.out.1 HMX.out.2 (Nat.le_trans HBW.out.size (by simp)) (y5.w.heap.size + 1) (by simp) ?_))
          intro g1 cap1 w3 hown3 hgrow3 hat3 hl3
          have HB3 := Lib.hid (show Below V.heap.size V w3 from own_grown (bel_alloc HBW.out _) (HOW.out.alloc _) hgrow3)
          have HO3 := Lib.hid (show w3.ownsRow V.heap.size 3 1 (.slice (some ⟨g1, 0, none⟩) (k + 1) cap1) (k + 1) (ints (R ++ [v])) by rw [ints_snoc]; exact hown3)
          clear hown3 hgrow3 hat3 HOW HBW
          go_upto_region 17 with fail
          refine wp_rebase _ (fun Q hQ q0 => ?_)
          have HBQ := Lib.hid (show Below V.heap.size V Q by rw [hQ]; exact HB3.out)
          have HOQ := Lib.hid (show Q.ownsRow V.heap.size 3 1 (.slice (some ⟨g1, 0, none⟩) (k + 1) cap1) (k + 1) (ints (R ++ [v])) by rw [hQ]; exact HO3.out)
          have HRQ := Lib.hid (show Q.rangeAt w.heap.size 0 [d0, d1, .int .i64 cn, .slice B ps.length cb, d4, d5, .slice GA G.length gc, d7, d8, d9, d10] from BelW.range HBAS.out ⟨Q, HBQ.out⟩)
          have mk := fun z : BelW Q => (show z.w.cell? (md.add k) = some (.int .i64 m) from HMK.out z.w (below_next HBQ.out z.2))
          clear hQ HB3 HO3
          go_wp2_with fail
          go_loopw [16] (fun s16 wr => EnI Q G rs m k s16 wr) (fun i _ => rs.length - (intOf i).toNat)
          case atStart => exact ⟨0, by omega, rfl, Lib.hid (fun i hi => absurd hi (Nat.not_lt_zero _)), q0, rfl⟩
          case round =>
            clear q0
            obtain ⟨j, hj, rfl, hin, z, rfl⟩ := hrel
            have HIN := Lib.hid hin.out
            clear hin
            by_cases hlj : j < rs.length
            · have i6 : decide ((j : Int) < (rs.length : Int)) = true := decide_eq_true (by omega)
              have n1 : (0 : Int) ≤ (j : Int) := by omega
              have n2 : (j : Int) < (rs.length : Int) := by omega
              obtain ⟨sd, sb, so, rfl, -, hE, hrg⟩ := (HS.out.below (Nat.le_refl _) HBQ.out).reading hlj
              have HINX := Lib.hid (fun h : (ofR G (rg rs j) k → (rg rs j).lo ≤ m ∧ m ≤ (rg rs j).hi) => (show ∀ i, i < j + 1 → ofR G (rg rs i) k → (rg rs i).lo ≤ m ∧ m ≤ (rg rs i).hi from fun i hi => by
                by_cases e : i = j
                · subst e; exact h
                · exact HIN.out i (by omega)))
              obtain ⟨r, hr⟩ : ∃ r, rg rs j = r := ⟨_, rfl⟩
              rw [hr] at hrg HINX
              clear hr
              obtain ⟨rg0, rhr, rlo, rhi⟩ := r
              have f0 := fun z : BelW Q => (show z.w.cell? ⟨sb, so, none⟩ = some (.int .i64 rg0) from BelW.cells (hrg 0 _ rfl) z)
              have f1 := fun z : BelW Q => (show z.w.cell? ⟨sb, so + 1, none⟩ = some (.int .i64 rhr) from BelW.cells (hrg 1 _ rfl) z)
              have f2 := fun z : BelW Q => (show z.w.cell? ⟨sb, so + 2, none⟩ = some (.int .i64 rlo) from BelW.cells (hrg 2 _ rfl) z)
              have f3 := fun z : BelW Q => (show z.w.cell? ⟨sb, so + 3, none⟩ = some (.int .i64 rhi) from BelW.cells (hrg 3 _ rfl) z)
              have COf := Lib.hid (fun z : BelW Q => bel_of (of26_any GA gc G cn d0 d1 (.slice B ps.length cb) d4 d5 d7 d8 d9 d10 HB.out.gn rg0 rhr rlo rhi k z.w ((HB.out.gm.below (Nat.le_refl _) HBQ.out).bel z)))
              obtain ⟨bo, hbo⟩ : ∃ b, decide (ofR G ⟨rg0, rhr, rlo, rhi⟩ k) = b := ⟨_, rfl⟩
              rw [hbo] at COf
              have HBO := Lib.hid (decide_of hbo)
              obtain ⟨bh, hbh⟩ : ∃ b, (decide (rlo ≤ m) && decide (m ≤ rhi)) = b := ⟨_, rfl⟩
              have CH := Lib.hid (fun z : BelW Q => bel_of (has_eq hbh z.w))
              have HBH := Lib.hid (show bh = true → rlo ≤ m ∧ m ≤ rhi from fun h => by rw [h] at hbh; simpa using hbh)
              have HEQ := Lib.hid (show ∀ z : BelW Q, Below w.heap.size w z.w from fun z => below_next HB0.out (below_next HBQ.out z.2))
              clear hrg hbo hbh
              go_upto_region 20 with fail
              refine wp_region_belx (by kernel_rfl) (by kernel_rfl) ?_
              repeat (first
                | (with_reducible refine wpQuiet_load_g 31 _ (by with_reducible rfl) _ _ (by with_unfolding_all rfl) (by with_unfolding_all rfl) _ _ (rangeX HRQ.out) Try.underlying31 (by with_unfolding_all rfl) (by kernel_rfl) ?_; simp only [Act.put, List.setIfInBounds_toArray, List.set_cons_succ, List.set_cons_zero])
                | go_big_quiet_step ((first | (go_at_call 19; with_reducible exact COf.out _))))
              refine wpQuiet_nil ?_
              intro z8
              cases bo
              · have HX := Lib.hid (HINX.out (fun h => by have := HBO.out.1 h; exact absurd this (by decide)))
                go_upto_region 21 with fail
                refine wp_region_belx (by kernel_rfl) (by kernel_rfl) ?_
                repeat (go_big_quiet_step (fail))
                refine wpQuiet_nil ?_
                intro z9
                clear f0 f1 f2 f3 mk hE
                go_wp2_with fail
                go_roundw
                case rel => exact ⟨j + 1, by omega, by go_num, Lib.hid HX.out, z9, rfl⟩
                case measure => simp [intOf]; omega
              · cases bh
                · go_upto_region 21 with fail
                  refine wp_region_belx (by kernel_rfl) (by kernel_rfl) ?_
                  repeat (go_big_quiet_step ((first | (go_at_call 20; with_reducible exact CH.out _))))
                  refine wpQuiet_nil ?_
                  intro z9
                  have HX := Lib.hid (HEQ.out z9)
                  clear f0 f1 f2 f3 mk hE
                  go_wp2_with fail
                  go_ret
                  exact ⟨rfl, HX.out⟩
                · have HX := Lib.hid (HINX.out (fun _ => HBH.out rfl))
                  go_upto_region 21 with fail
                  refine wp_region_belx (by kernel_rfl) (by kernel_rfl) ?_
                  repeat (go_big_quiet_step ((first | (go_at_call 20; with_reducible exact CH.out _))))
                  refine wpQuiet_nil ?_
                  intro z9
                  clear f0 f1 f2 f3 mk hE
                  go_wp2_with fail
                  go_roundw
                  case rel => exact ⟨j + 1, by omega, by go_num, Lib.hid HX.out, z9, rfl⟩
                  case measure => simp [intOf]; omega
            · have i6 : decide ((j : Int) < (rs.length : Int)) = false := decide_eq_false (by omega)
              obtain rfl : j = rs.length := by omega
              have HX := Lib.hid (show ∀ i, i < k + 1 → EnOk G rs p (gi mm i) (gi (R ++ [v]) i) i from fun i hi => by
                rw [gi_snoc, HRL.out]
                by_cases e : i < k
                · rw [if_pos e]; exact HBD.out i e
                · have e2 : i = k := by omega
                  subst e2
                  rw [if_neg e, if_pos rfl, HMM.out]
                  exact ⟨HMB.out.1, HMB.out.2, HV.out.1, HV.out.2.1, HV.out.2.2.1, HV.out.2.2.2, fun r hr h => by
                    obtain ⟨t, ht, rfl⟩ := List.getElem_of_mem hr
                    have := HIN.out t ht
                    rw [rg_at ht] at this
                    exact this h⟩)
              have HOZ := Lib.hid (own_below (u' := z.w) HOQ.out z.2)
              clear mk
              go_wp2_with fail
              go_roundw
              case rel => exact ⟨k + 1, R ++ [v], by omega, by rw [List.length_append, HRL.out]; rfl, by go_num, Lib.hid HX.out, ⟨z.w, below_next HBQ.out z.2⟩, rfl, HOZ.out⟩
              case measure => simp [intOf]; omega
      · have t6 : decide ((k : Int) < (off.length : Int)) = false := decide_eq_false (by omega)
        have HVB := Lib.hid (show 0 ≤ m ∧ m ≤ 2199023255552 from by have := HMB.out; omega)
        go_upto_region 14 with fail
        refine wp_rebase _ (fun X hX x1w => ?_)
        have HBX := Lib.hid (show Below V.heap.size V X by rw [hX]; exact y.2)
        have HOX := Lib.hid (show X.ownsRow V.heap.size 3 1 u13 k (ints R) by rw [hX]; exact HO13.out)
        have mk0 := fun z : BelW X => (show z.w.cell? (md.add k) = some (.int .i64 m) from HMK.out z.w (below_next HBX.out z.2))
        clear hX e1 HO13
        obtain ⟨x5, hx5⟩ : ∃ x, p * m = x := ⟨_, rfl⟩
        have hx5b : 0 ≤ x5 ∧ x5 ≤ 2199023255552000 := by
          rw [← hx5]
          exact ⟨Int.mul_nonneg HL.out.2.2.1 HVB.out.1, Int.le_trans (Int.mul_le_mul_of_nonneg_right (show p ≤ 1000 by have := HL.out.2.2.2; omega) HVB.out.1) (by have := HVB.out.2; omega)⟩
        have hx1 : m - m = 0 := by omega
        have hx2 : IntKind.i64.wrap 0 = 0 := IntWalk.i64_in _ (by omega)
        have hx3 : max (0 : Int) 0 = 0 := by omega
        have hx4 : (1000 : Int) * 0 = 0 := by omega
        have wr1 := hx2
        have wr2 := hx2
        have wr4 := hx2
        have wr5 : IntKind.i64.wrap x5 = x5 := IntWalk.i64_in _ (by omega)
        have t9 : decide (x5 < 0) = false := decide_eq_false (by omega)
        clear hx5b
        have HV := Lib.hid (show 0 ≤ m ∧ m ≤ 2199023255552 ∧ 1000 * (m - m) ≤ p * m ∧ 1000 * (m - m) ≤ p * m from by
          have h1 := HVB.out
          have h2 : 0 ≤ p * m := Int.mul_nonneg HL.out.2.2.1 h1.1
          refine ⟨h1.1, h1.2, ?_, ?_⟩ <;> omega)
        go_upto_region 14 with fail
        refine wp_region_belx (by kernel_rfl) (by kernel_rfl) ?_
        repeat (go_big_quiet_step (fail))
        refine wpQuiet_nil ?_
        intro y5
        have HOW := Lib.hid (own_below (u' := y5.w) HOX.out y5.2)
        have HBW := Lib.hid (show Below V.heap.size V y5.w from below_next HBX.out y5.2)
        clear wr1 wr2 wr4 wr5 hx1 hx2 hx3 hx4 hx5 mk0
        go_upto_region 16 with fail
        go_wp2_with (first | (at_builtin; refine wpList_append_lies _ rfl _ _ _ (by rfl) V.heap.size 3 i0 _ 1 8 Try.underlying29 INF.out.1 INF.out.2.1 INF.out.2.2.1 INF.out.2.2.2 rfl (by omega) _ k (ints R) (by rfl) (HOW.out.alloc _) ⟨y5.w.heap.size, 0, none⟩ 1 1 [.int .i64 m] (by rfl) (by rfl) (World.news_of_block (heap_alloc_new _ _)) (by simp [Value.oneCell']) (by omega) HMX.out.1 HMX.out.2 (Nat.le_trans HBW.out.size (by simp)) (y5.w.heap.size + 1) (by simp) ?_))
        intro g1 cap1 w3 hown3 hgrow3 hat3 hl3
        have HB3 := Lib.hid (show Below V.heap.size V w3 from own_grown (bel_alloc HBW.out _) (HOW.out.alloc _) hgrow3)
        have HO3 := Lib.hid (show w3.ownsRow V.heap.size 3 1 (.slice (some ⟨g1, 0, none⟩) (k + 1) cap1) (k + 1) (ints (R ++ [m])) by rw [ints_snoc]; exact hown3)
        clear hown3 hgrow3 hat3 HOW HBW
        go_upto_region 17 with fail
        refine wp_rebase _ (fun Q hQ q0 => ?_)
        have HBQ := Lib.hid (show Below V.heap.size V Q by rw [hQ]; exact HB3.out)
        have HOQ := Lib.hid (show Q.ownsRow V.heap.size 3 1 (.slice (some ⟨g1, 0, none⟩) (k + 1) cap1) (k + 1) (ints (R ++ [m])) by rw [hQ]; exact HO3.out)
        have HRQ := Lib.hid (show Q.rangeAt w.heap.size 0 [d0, d1, .int .i64 cn, .slice B ps.length cb, d4, d5, .slice GA G.length gc, d7, d8, d9, d10] from BelW.range HBAS.out ⟨Q, HBQ.out⟩)
        have mk := fun z : BelW Q => (show z.w.cell? (md.add k) = some (.int .i64 m) from HMK.out z.w (below_next HBQ.out z.2))
        clear hQ HB3 HO3
        go_wp2_with fail
        go_loopw [16] (fun s16 wr => EnI Q G rs m k s16 wr) (fun i _ => rs.length - (intOf i).toNat)
        case atStart => exact ⟨0, by omega, rfl, Lib.hid (fun i hi => absurd hi (Nat.not_lt_zero _)), q0, rfl⟩
        case round =>
          clear q0
          obtain ⟨j, hj, rfl, hin, z, rfl⟩ := hrel
          have HIN := Lib.hid hin.out
          clear hin
          by_cases hlj : j < rs.length
          · have i6 : decide ((j : Int) < (rs.length : Int)) = true := decide_eq_true (by omega)
            have n1 : (0 : Int) ≤ (j : Int) := by omega
            have n2 : (j : Int) < (rs.length : Int) := by omega
            obtain ⟨sd, sb, so, rfl, -, hE, hrg⟩ := (HS.out.below (Nat.le_refl _) HBQ.out).reading hlj
            have HINX := Lib.hid (fun h : (ofR G (rg rs j) k → (rg rs j).lo ≤ m ∧ m ≤ (rg rs j).hi) => (show ∀ i, i < j + 1 → ofR G (rg rs i) k → (rg rs i).lo ≤ m ∧ m ≤ (rg rs i).hi from fun i hi => by
              by_cases e : i = j
              · subst e; exact h
              · exact HIN.out i (by omega)))
            obtain ⟨r, hr⟩ : ∃ r, rg rs j = r := ⟨_, rfl⟩
            rw [hr] at hrg HINX
            clear hr
            obtain ⟨rg0, rhr, rlo, rhi⟩ := r
            have f0 := fun z : BelW Q => (show z.w.cell? ⟨sb, so, none⟩ = some (.int .i64 rg0) from BelW.cells (hrg 0 _ rfl) z)
            have f1 := fun z : BelW Q => (show z.w.cell? ⟨sb, so + 1, none⟩ = some (.int .i64 rhr) from BelW.cells (hrg 1 _ rfl) z)
            have f2 := fun z : BelW Q => (show z.w.cell? ⟨sb, so + 2, none⟩ = some (.int .i64 rlo) from BelW.cells (hrg 2 _ rfl) z)
            have f3 := fun z : BelW Q => (show z.w.cell? ⟨sb, so + 3, none⟩ = some (.int .i64 rhi) from BelW.cells (hrg 3 _ rfl) z)
            have COf := Lib.hid (fun z : BelW Q => bel_of (of26_any GA gc G cn d0 d1 (.slice B ps.length cb) d4 d5 d7 d8 d9 d10 HB.out.gn rg0 rhr rlo rhi k z.w ((HB.out.gm.below (Nat.le_refl _) HBQ.out).bel z)))
            obtain ⟨bo, hbo⟩ : ∃ b, decide (ofR G ⟨rg0, rhr, rlo, rhi⟩ k) = b := ⟨_, rfl⟩
            rw [hbo] at COf
            have HBO := Lib.hid (decide_of hbo)
            obtain ⟨bh, hbh⟩ : ∃ b, (decide (rlo ≤ m) && decide (m ≤ rhi)) = b := ⟨_, rfl⟩
            have CH := Lib.hid (fun z : BelW Q => bel_of (has_eq hbh z.w))
            have HBH := Lib.hid (show bh = true → rlo ≤ m ∧ m ≤ rhi from fun h => by rw [h] at hbh; simpa using hbh)
            have HEQ := Lib.hid (show ∀ z : BelW Q, Below w.heap.size w z.w from fun z => below_next HB0.out (below_next HBQ.out z.2))
            clear hrg hbo hbh
            go_upto_region 20 with fail
            refine wp_region_belx (by kernel_rfl) (by kernel_rfl) ?_
            repeat (first
              | (with_reducible refine wpQuiet_load_g 31 _ (by with_reducible rfl) _ _ (by with_unfolding_all rfl) (by with_unfolding_all rfl) _ _ (rangeX HRQ.out) Try.underlying31 (by with_unfolding_all rfl) (by kernel_rfl) ?_; simp only [Act.put, List.setIfInBounds_toArray, List.set_cons_succ, List.set_cons_zero])
              | go_big_quiet_step ((first | (go_at_call 19; with_reducible exact COf.out _))))
            refine wpQuiet_nil ?_
            intro z8
            cases bo
            · have HX := Lib.hid (HINX.out (fun h => by have := HBO.out.1 h; exact absurd this (by decide)))
              go_upto_region 21 with fail
              refine wp_region_belx (by kernel_rfl) (by kernel_rfl) ?_
              repeat (go_big_quiet_step (fail))
              refine wpQuiet_nil ?_
              intro z9
              clear f0 f1 f2 f3 mk hE
              go_wp2_with fail
              go_roundw
              case rel => exact ⟨j + 1, by omega, by go_num, Lib.hid HX.out, z9, rfl⟩
              case measure => simp [intOf]; omega
            · cases bh
              · go_upto_region 21 with fail
                refine wp_region_belx (by kernel_rfl) (by kernel_rfl) ?_
                repeat (go_big_quiet_step ((first | (go_at_call 20; with_reducible exact CH.out _))))
                refine wpQuiet_nil ?_
                intro z9
                have HX := Lib.hid (HEQ.out z9)
                clear f0 f1 f2 f3 mk hE
                go_wp2_with fail
                go_ret
                exact ⟨rfl, HX.out⟩
              · have HX := Lib.hid (HINX.out (fun _ => HBH.out rfl))
                go_upto_region 21 with fail
                refine wp_region_belx (by kernel_rfl) (by kernel_rfl) ?_
                repeat (go_big_quiet_step ((first | (go_at_call 20; with_reducible exact CH.out _))))
                refine wpQuiet_nil ?_
                intro z9
                clear f0 f1 f2 f3 mk hE
                go_wp2_with fail
                go_roundw
                case rel => exact ⟨j + 1, by omega, by go_num, Lib.hid HX.out, z9, rfl⟩
                case measure => simp [intOf]; omega
          · have i6 : decide ((j : Int) < (rs.length : Int)) = false := decide_eq_false (by omega)
            obtain rfl : j = rs.length := by omega
            have HX := Lib.hid (show ∀ i, i < k + 1 → EnOk G rs p (gi mm i) (gi (R ++ [m]) i) i from fun i hi => by
              rw [gi_snoc, HRL.out]
              by_cases e : i < k
              · rw [if_pos e]; exact HBD.out i e
              · have e2 : i = k := by omega
                subst e2
                rw [if_neg e, if_pos rfl, HMM.out]
                exact ⟨HMB.out.1, HMB.out.2, HV.out.1, HV.out.2.1, HV.out.2.2.1, HV.out.2.2.2, fun r hr h => by
                  obtain ⟨t, ht, rfl⟩ := List.getElem_of_mem hr
                  have := HIN.out t ht
                  rw [rg_at ht] at this
                  exact this h⟩)
            have HOZ := Lib.hid (own_below (u' := z.w) HOQ.out z.2)
            clear mk
            go_wp2_with fail
            go_roundw
            case rel => exact ⟨k + 1, R ++ [m], by omega, by rw [List.length_append, HRL.out]; rfl, by go_num, Lib.hid HX.out, ⟨z.w, below_next HBQ.out z.2⟩, rfl, HOZ.out⟩
            case measure => simp [intOf]; omega
    · have i4 : decide ((k : Int) < (mm.length : Int)) = false := decide_eq_false (by omega)
      obtain rfl : k = mm.length := by omega
      obtain ⟨RA, rc, rfl, -, hrr⟩ := own_slice HO13.out
      have HRR := Lib.hid hrr
      clear hrr HO13
      go_upto_region 23 with fail
      refine wp_rebase _ (fun P hP p0 => ?_)
      have HBP := Lib.hid (show Below V.heap.size V P by rw [hP]; exact y.2)
      have HR1 := Lib.hid (show Rd P RA (ints R) by rw [hP]; exact HRR.out)
      have HRX := Lib.hid (show P.rangeAt w.heap.size 0 [d0, d1, .int .i64 cn, .slice B ps.length cb, d4, d5, .slice GA G.length gc, d7, d8, d9, d10] from BelW.range HBAS.out ⟨P, HBP.out⟩)
      have HB1 := Lib.hid (HB.out.below (Nat.le_refl _) HBP.out)
      have HS1 := Lib.hid (HS.out.below (Nat.le_refl _) HBP.out)
      have HM1 := Lib.hid (HM.out.below (Nat.le_refl _) HBP.out)
      have HBPw := Lib.hid (below_next HB0.out HBP.out)
      clear hP HRR HB HS HM HO HEX y
      have C1 := Lib.hid (fun (W : World) (hb : Below P.heap.size P W) => (show Calls Try.prog 11 #[.agg #[d0, d1, .int .i64 cn, .slice B ps.length cb, d4, d5, .slice GA G.length gc, d7, d8, d9, d10], .slice RA mm.length rc, .int .i64 p, .slice SA rs.length sc] W (SpPost (cellsL G R p rs (cellN cn)) W) from by
        have h := cells_any GA RA SA gc rc sc G R rs cn p d0 d1 (.slice B ps.length cb) d4 d5 d7 d8 d9 d10 (by rw [HRL.out]; exact hmn) hsn HB1.out.gn hp HF.out.2.1 HB1.out.gok W (HB1.out.gm.below (Nat.le_refl _) hb) (HR1.out.below (Nat.le_refl _) hb) (HS1.out.below (Nat.le_refl _) hb)
        rwa [HRL.out] at h))
      have hN : cellN cn ≤ mm.length := by
        have := HL.out.2.1
        unfold cellN
        omega
      have hmax : max 0 cn = ((cellN cn : Nat) : Int) := by
        have := HL.out.2.1
        unfold cellN
        omega
      obtain ⟨n, hn⟩ : ∃ n, cellN cn = n := ⟨_, rfl⟩
      rw [hn] at C1 hN hmax
      clear hn
      have HIN := Lib.hid (fun i (hi : i < n) => enc_cell (mm := mm) HL.out.2.2.1 HL.out.2.2.2 (HBD.out i (by omega)) hi)
      have HLc := Lib.hid (cellsL_length G R p rs n)
      obtain ⟨cs, hcs⟩ : ∃ l, cellsL G R p rs n = l := ⟨_, rfl⟩
      rw [hcs] at C1 HIN HLc
      have hcl := HLc.out
      have HRX0 := Lib.hid (BelW.range HRX.out p0)
      clear hcs HBD HRL
      go_wp2_with (first | (with_reducible refine wpList_load_g 31 _ (by with_reducible rfl) _ _ (by with_unfolding_all rfl) (by with_unfolding_all rfl) _ _ HRX0.out Try.underlying31 (by with_unfolding_all rfl) (by kernel_rfl) ?_))
      refine (C1.out _ p0.2).mono ?_
      rintro e w4 ⟨A1, c1, rfl, -, -, hr1, hb1⟩
      have HB4 := Lib.hid (below_next p0.2 hb1)
      have HX4 := Lib.hid hr1
      clear hr1 hb1 HRX0 C1
      rw [hcl]
      go_upto_region 24 with fail
      refine wp_rebase _ (fun T hT t0 => ?_)
      have HBT := Lib.hid (show Below P.heap.size P T by rw [hT]; exact HB4.out)
      have HX := Lib.hid (show Rd T A1 (spCells cs) by rw [hT]; exact HX4.out)
      have HM2 := Lib.hid (HM1.out.below (Nat.le_refl _) HBT.out)
      have HRT := Lib.hid (show T.rangeAt w.heap.size 0 [d0, d1, .int .i64 cn, .slice B ps.length cb, d4, d5, .slice GA G.length gc, d7, d8, d9, d10] from BelW.range HRX.out ⟨T, HBT.out⟩)
      have HB2 := Lib.hid (HB1.out.below (Nat.le_refl _) HBT.out)
      have HBTw := Lib.hid (below_next HBPw.out HBT.out)
      clear hT HX4 HB4 HM1 HB1 HRX HBPw HR1 HS1
      go_wp2_with fail
      go_loopw [19] (fun s19 wr => EnC T n s19 wr) (fun i _ => n - (intOf i).toNat)
      case atStart => exact ⟨0, by omega, rfl, t0, rfl⟩
      case round =>
        clear t0
        obtain ⟨k, hk, rfl, y, rfl⟩ := hrel
        by_cases hlt : k < n
        · have i5 : decide ((k : Int) < (n : Int)) = true := decide_eq_true (by omega)
          have j1 : (0 : Int) ≤ (k : Int) := by omega
          have j2 : (k : Int) < (n : Int) := by omega
          have hkm : k < mm.length := by omega
          have j3 : (k : Int) < (mm.length : Int) := by omega
          obtain ⟨xd, xb, xo, rfl, -, hE1, e1, e2⟩ := HX.out.span (show k < cs.length by omega)
          obtain ⟨md, rfl, e3⟩ := rd_row HM2.out hkm
          have hin := HIN.out k hlt
          have g1 := fun z : BelW T => BelW.cells e1 z
          have g2 := fun z : BelW T => BelW.cells e2 z
          have g3 := fun z : BelW T => BelW.cells e3 z
          obtain ⟨x, hx⟩ : ∃ x, gs cs k = x := ⟨_, rfl⟩
          obtain ⟨m, hm⟩ : ∃ x, gi mm k = x := ⟨_, rfl⟩
          rw [hx] at g1 g2 hin
          rw [hm] at g3 hin
          obtain ⟨lo, hi⟩ := x
          have h1 : lo ≤ m := hin.1
          have h2 : m ≤ hi := hin.2
          have CH := Lib.hid (fun z : BelW T => bel_of (has_eq (b := true) (by rw [decide_eq_true h1, decide_eq_true h2]; rfl) z.w))
          clear e1 e2 e3 hx hm hin h1 h2
          go_upto_region 27 with fail
          refine wp_region_belx (by kernel_rfl) (by kernel_rfl) ?_
          repeat (go_big_quiet_step ((first | (go_at_call 20; with_reducible exact CH.out _))))
          refine wpQuiet_nil ?_
          intro y2
          clear g1 g2 g3
          go_wp2_with fail
          go_roundw
          case rel => exact ⟨k + 1, by omega, by go_num, y2, rfl⟩
          case measure => simp [intOf]; omega
        · have i5 : decide ((k : Int) < (n : Int)) = false := decide_eq_false (by omega)
          have D1 := Lib.hid (fun (W : World) (hb : Below T.heap.size T W) => (show Calls Try.prog 13 #[.agg #[d0, d1, .int .i64 cn, .slice B ps.length cb, d4, d5, .slice GA G.length gc, d7, d8, d9, d10], .slice A1 n c1] W (SpPost (meshL cs ps) W) from by
            have h := mesh_any B A1 cb c1 ps cs d0 d1 (.int .i64 cn) d4 d5 (.slice GA G.length gc) d7 d8 d9 d10 HPN.out.1 HPN.out.2.1 (by omega) (fun x hx => (HB2.out.pok x hx).2) W (HB2.out.psm.below (Nat.le_refl _) hb) (HX.out.below (Nat.le_refl _) hb)
            rwa [hcl] at h))
          have HW := Lib.hid (fun i (hi : i < ps.length) => (show InS (gs (meshL cs ps) i) (meshF Prod.fst (exs (mm.take n)) (pr ps i).rain) by
            rw [meshL_at hi]
            exact enc_mesh hcl hN HIN.out _))
          have HLm := Lib.hid (meshL_length cs ps)
          have HMF := Lib.hid (show ∀ x ∈ meshL cs ps, Fit2 x from fun x hx => by
            unfold meshL at hx
            obtain ⟨q, _, rfl⟩ := List.mem_map.1 hx
            exact ⟨meshF_fit _ _ _, meshF_fit _ _ _⟩)
          obtain ⟨ms, hms⟩ : ∃ l, meshL cs ps = l := ⟨_, rfl⟩
          rw [hms] at D1 HW HLm HMF
          have hml := HLm.out
          have HRX0 := Lib.hid (BelW.range HRT.out y)
          clear hms hcl HIN
          go_wp2_with (first | (with_reducible refine wpList_load_g 31 _ (by with_reducible rfl) _ _ (by with_unfolding_all rfl) (by with_unfolding_all rfl) _ _ HRX0.out Try.underlying31 (by with_unfolding_all rfl) (by kernel_rfl) ?_))
          refine (D1.out _ y.2).mono ?_
          rintro e w5 ⟨A2, c2, rfl, -, -, hr2, hb2⟩
          have HB5 := Lib.hid (below_next y.2 hb2)
          have HP5 := Lib.hid hr2
          clear hr2 hb2 HRX0 D1
          rw [hml]
          go_upto_region 30 with fail
          refine wp_rebase _ (fun S hS s0 => ?_)
          have HBS := Lib.hid (show Below T.heap.size T S by rw [hS]; exact HB5.out)
          have HP := Lib.hid (show Rd S A2 (spCells ms) by rw [hS]; exact HP5.out)
          have HM3 := Lib.hid (HM2.out.below (Nat.le_refl _) HBS.out)
          have HB3 := Lib.hid (HB2.out.below (Nat.le_refl _) HBS.out)
          have HRS := Lib.hid (show S.rangeAt w.heap.size 0 [d0, d1, .int .i64 cn, .slice B ps.length cb, d4, d5, .slice GA G.length gc, d7, d8, d9, d10] from BelW.range HRT.out ⟨S, HBS.out⟩)
          have HBSw := Lib.hid (below_next HBTw.out HBS.out)
          have hpl := HPN.out.1
          have hmc := HF.out.2.2.2
          clear hS HP5 HB5 HM2 HB2 HRT HX y
          have b2 : ∀ z : BelW S, z.w.cell? ⟨w.heap.size, 2, none⟩ = some (.int .i64 cn) := fun z => BelW.range HRS.out z 2 _ rfl
          have b3 : ∀ z : BelW S, z.w.cell? ⟨w.heap.size, 3, none⟩ = some (.slice B ps.length cb) := fun z => BelW.range HRS.out z 3 _ rfl
          go_wp2_with fail
          go_loopw [21, 22] (fun s21 s22 wr => EnT S ms s21 s22 wr) (fun _ i _ => ps.length - (intOf i).toNat)
          case atStart => exact ⟨0, 0, by omega, rfl, rfl, Lib.hid ⟨⟨Int.le_refl _, Int.le_refl _⟩, by unfold Fit; omega⟩, s0, rfl⟩
          case round =>
            clear s0
            obtain ⟨k, t, hk, rfl, rfl, hin, y, rfl⟩ := hrel
            have HT := Lib.hid hin.out
            clear hin
            by_cases hlt : k < ps.length
            · have i6 : decide ((k : Int) < (ps.length : Int)) = true := decide_eq_true (by omega)
              have i7 : decide ((ps.length : Int) ≤ (k : Int)) = false := decide_eq_false (by omega)
              have j1 : (0 : Int) ≤ (k : Int) := by omega
              have j2 : (k : Int) < (ps.length : Int) := by omega
              obtain ⟨xd, xb, xo, rfl, -, hE1, e1, e2⟩ := HP.out.span (show k < ms.length by omega)
              obtain ⟨pd, pb, po, rfl, -, hE2, hr, hrr⟩ := HB3.out.psm.at hlt
              have HINk := Lib.hid (HW.out k hlt)
              have HRNk := Lib.hid (show (pr ps k).rain.length ≤ 1000 by rw [pr_at hlt]; exact HPN.out.2.1 _ (List.getElem_mem hlt))
              have HSL := Lib.hid (sumL_take (show k < ms.length by omega))
              obtain ⟨PP, hPP⟩ : ∃ x, pr ps k = x := ⟨_, rfl⟩
              rw [hPP] at hr hrr HINk HRNk
              clear hPP
              obtain ⟨v0, v1, v2, v3, v4, v5, v6, v7, v8, v9, v10, PA, pc, rain⟩ := PP
              have HPL := Lib.hid (show S.rangeAt pb po [v0, v1, v2, v3, v4, v5, v6, v7, v8, v9, v10, .slice PA rain.length pc] from hr)
              have HPR := Lib.hid (show Rd S PA (spCells rain) from hrr)
              have HINf := Lib.hid (show InS (gs ms k) (meshF Prod.fst (exs (mm.take n)) rain) from HINk.out)
              have HRNf := Lib.hid (show rain.length ≤ 1000 from HRNk.out)
              have hff := meshF_fit Prod.fst (exs (mm.take n)) rain
              have HTK := Lib.hid (show Rd S MA (ints (mm.take n)) from fun h0 => by
                have h0' : 0 < mm.length := by
                  rw [ints_length, List.length_take] at h0
                  omega
                obtain ⟨ad, e, hb, hc⟩ := HM3.out (by rw [ints_length]; exact h0')
                refine ⟨ad, e, hb, fun j u hu => hc j u ?_⟩
                have hj := (List.getElem?_eq_some_iff.1 hu).1
                have e3 : ints mm = ints (mm.take n) ++ ints (mm.drop n) := by unfold ints; rw [← List.map_append, List.take_append_drop]
                rw [e3, List.getElem?_append_left hj]
                exact hu)
              have CF := Lib.hid (fun z : BelW S => (show Calls Try.prog 21 #[.agg #[v0, v1, v2, v3, v4, v5, v6, v7, v8, v9, v10, .slice PA rain.length pc], .slice MA n mc] z.w fun e w' => e = .returned (.int .i64 (meshF Prod.fst (exs (mm.take n)) rain)) ∧ ∃ y : BelW S, w' = y.w from by
                have h := bel_of (x := z) (falls_any PA MA pc mc rain (mm.take n) v0 v1 v2 v3 v4 v5 v6 v7 v8 v9 v10 (by have := HRNf.out; omega) (by rw [List.length_take]; omega) z.w (HPR.out.bel z) (HTK.out.bel z))
                rwa [List.length_take, Nat.min_eq_left hN] at h))
              obtain ⟨f, hf⟩ : ∃ f, meshF Prod.fst (exs (mm.take n)) rain = f := ⟨_, rfl⟩
              rw [hf] at CF HINf hff
              have hT1 := HT.out
              have CA := Lib.hid (fun z : BelW S => bel_of_same (add_any t f hT1.2.1 hT1.2.2 hff.1 hff.2 z.w))
              obtain ⟨x, hx⟩ : ∃ x, gs ms k = x := ⟨_, rfl⟩
              rw [hx] at e1 e2 HINf HSL
              obtain ⟨lo, hi⟩ := x
              have h1 : lo ≤ f := HINf.out.1
              have h2 : f ≤ hi := HINf.out.2
              have CH := Lib.hid (fun z : BelW S => bel_of (has_eq (b := true) (by rw [decide_eq_true h1, decide_eq_true h2]; rfl) z.w))
              have g1 := fun z : BelW S => (show z.w.cell? ⟨xb, xo, none⟩ = some (.int .i64 lo) from BelW.cells e1 z)
              have g2 := fun z : BelW S => (show z.w.cell? ⟨xb, xo + 1, none⟩ = some (.int .i64 hi) from BelW.cells e2 z)
              have HNX := Lib.hid (show InS (sumL (ms.take (k + 1))) (Xa.add t f) from by
                rw [HSL.out]
                exact ⟨xadd_mono hT1.1.1 h1, xadd_mono hT1.1.2 h2⟩)
              have HNF := Lib.hid (Xa.add_bd t f)
              clear e1 e2 hr hrr hf hff hx hT1 h1 h2 HINk HRNk
              have n1 : (0 : Int) ≤ (n : Int) := by omega
              have n2 : (n : Int) ≤ (mm.length : Int) := by omega
              have n3 : (mm.length : Int) ≤ (mc : Int) := by omega
              have n4 : (n : Int) ≤ (mc : Int) := by omega
              go_upto_region 34 with fail
              refine wp_region_belx (by kernel_rfl) (by kernel_rfl) ?_
              cases MA with
              | none =>
                have hm0 := HF.out.2.2.1 rfl
                have hmm0 : mm.length = 0 := by omega
                have hn0 : n = 0 := by omega
                have CF0 := CF.out
                rw [hn0, hm0] at CF0
                clear CF
                have CF := Lib.hid CF0
                clear CF0
                repeat (first
                  | (with_reducible refine wpQuiet_load_g 53 _ (by with_reducible rfl) _ _ (by with_unfolding_all rfl) (by with_unfolding_all rfl) _ _ (rangeXo HPL.out) Try.underlying53 (by with_unfolding_all rfl) (by kernel_rfl) ?_; simp only [Act.put, List.setIfInBounds_toArray, List.set_cons_succ, List.set_cons_zero])
                  | go_big_quiet_step ((first | (go_at_call 21; with_reducible exact CF.out _))))
                refine wpQuiet_nil ?_
                intro z3
                try clear hn0 hm0 hmm0
                go_wp2_with (first | (go_at_call 20; (with_reducible refine (CH.out _).mono ?_); rintro e w' ⟨rfl, z4, rfl⟩) | (go_at_call 18; (with_reducible refine (CA.out _).mono ?_); rintro e w' ⟨rfl, z5, rfl⟩))
                go_roundw
                case rel => exact ⟨k + 1, Xa.add t f, by omega, by go_num, rfl, Lib.hid ⟨HNX.out, HNF.out⟩, z5, rfl⟩
                case measure => simp [intOf]; omega
              | some md =>
                repeat (first
                  | (with_reducible refine wpQuiet_load_g 53 _ (by with_reducible rfl) _ _ (by with_unfolding_all rfl) (by with_unfolding_all rfl) _ _ (rangeXo HPL.out) Try.underlying53 (by with_unfolding_all rfl) (by kernel_rfl) ?_; simp only [Act.put, List.setIfInBounds_toArray, List.set_cons_succ, List.set_cons_zero])
                  | go_big_quiet_step ((first | (go_at_call 21; with_reducible exact CF.out _))))
                refine wpQuiet_nil ?_
                intro z3
                try clear hn0 hm0 hmm0
                go_wp2_with (first | (go_at_call 20; (with_reducible refine (CH.out _).mono ?_); rintro e w' ⟨rfl, z4, rfl⟩) | (go_at_call 18; (with_reducible refine (CA.out _).mono ?_); rintro e w' ⟨rfl, z5, rfl⟩))
                go_roundw
                case rel => exact ⟨k + 1, Xa.add t f, by omega, by go_num, rfl, Lib.hid ⟨HNX.out, HNF.out⟩, z5, rfl⟩
                case measure => simp [intOf]; omega
            · have i6 : decide ((k : Int) < (ps.length : Int)) = false := decide_eq_false (by omega)
              have hkl : k = ms.length := by omega
              subst hkl
              have HTT := Lib.hid (show InS (sumL ms) t from by have := HT.out.1; rwa [List.take_length] at this)
              have CS := Lib.hid (fun z : BelW S => (show Calls Try.prog 15 #[.slice A2 ps.length c2] z.w fun e w' => e = .returned (.agg #[.int .i64 (sumL ms).1, .int .i64 (sumL ms).2]) ∧ ∃ y : BelW S, w' = y.w from by
                have h := bel_of (x := z) (sum_any A2 c2 ms (by omega) HMF.out z.w (HP.out.bel z))
                rwa [hml] at h))
              obtain ⟨x, hx⟩ : ∃ x, sumL ms = x := ⟨_, rfl⟩
              rw [hx] at HTT CS
              obtain ⟨lo, hi⟩ := x
              have h1 : lo ≤ t := HTT.out.1
              have h2 : t ≤ hi := HTT.out.2
              have CH := Lib.hid (fun z : BelW S => bel_of (has_eq (b := true) (by rw [decide_eq_true h1, decide_eq_true h2]; rfl) z.w))
              have te : ((ps.length : Int) == (ps.length : Int)) = true := beq_iff_eq.2 rfl
              have HUP := Lib.hid (fun z : BelW S => (show Below w.heap.size w z.w from below_next HBSw.out z.2))
              clear hx h1 h2
              go_wp2_with (first | (go_at_call 15; (with_reducible refine (CS.out _).mono ?_); rintro e w' ⟨rfl, z1, rfl⟩) | (go_at_call 20; (with_reducible refine (CH.out _).mono ?_); rintro e w' ⟨rfl, z2, rfl⟩))
              go_ret
              exact ⟨rfl, HUP.out z2⟩

end Go.Proofs.Ytafnmaojpheppaa
