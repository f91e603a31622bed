/- ExactShares: the walk. -/
import Derived.Test.YtemdnfodpijncaaWhole
namespace Go.Proofs.Ytemdnfodpijncaa
open Go.RowKit
set_option linter.unusedVariables false
set_option linter.unusedSimpArgs false

theorem BelW.below4 {w : World} (x : BelW w) : Below w.heap.size w x.w := x.2
def Wo (t : Int) (l x : List Int) (wo la : Int) : Prop := wo = -1 ∨ ∃ i : Nat, la = (i : Int) ∧ i < l.length ∧ gi x i = qq t l i + 1 ∧ wo = rr t l i
def Be (t : Int) (l x : List Int) (be fi : Int) : Prop := be = -1 ∨ ∃ i : Nat, fi = (i : Int) ∧ i < l.length ∧ gi x i = qq t l i ∧ be = rr t l i
def ShsR (V : World) (t : Int) (l x : List Int) (s10 s11 s12 s13 s14 s15 : Value) (wr : World) : Prop :=
  ∃ (k : Nat) (wo la be fi : Int), k ≤ l.length ∧ s15 = .int .i64 (k : Int) ∧ s10 = .int .i64 (su (gi x) k) ∧ s11 = .int .i64 wo ∧ s12 = .int .i64 la ∧ s13 = .int .i64 be ∧ s14 = .int .i64 fi ∧ Hid (Wo t l x wo la) ∧ Hid (Be t l x be fi) ∧ ∃ y : BelW V, wr = y.w
theorem ends_shares {t : Int} {l x : List Int} (h : ShareP t l x) {wo la be fi : Int} (hw : Wo t l x wo la) (hb : Be t l x be fi) :
    wo < 0 ∨ (0 ≤ wo ∧ be < 0) ∨ (0 ≤ wo ∧ 0 ≤ be ∧ be < wo) ∨ (0 ≤ wo ∧ 0 ≤ be ∧ be = wo ∧ la < fi) := by
  rcases hw with a | ⟨i, a1, a2, a3, a4⟩
  · exact .inl (by omega)
  · have r0 := rr_nonneg t l i
    rcases hb with b | ⟨j, b1, b2, b3, b4⟩
    · exact .inr (.inl ⟨by omega, by omega⟩)
    · have r1 := rr_nonneg t l j
      have hf := h.ord i j a2 b2 a3 b3
      unfold bef at hf
      rcases hf with c | ⟨c, d⟩
      · exact .inr (.inr (.inl ⟨by omega, by omega, by omega⟩))
      · exact .inr (.inr (.inr ⟨by omega, by omega, by omega, by omega⟩))
theorem su_share_le {t : Int} {l x : List Int} (h : ShareP t l x) (hw : Wt l) (h0 : 0 ≤ t) (h1 : t ≤ l.sum) {k : Nat} (hk : k ≤ l.length) : 0 ≤ su (gi x) k ∧ su (gi x) k ≤ 1125899906842624 := by
  have a := su_le (f := fun _ => 0) (g := gi x) (n := k) (fun i hi => (h.le hw h0 h1 (by omega)).1)
  rw [su_zero (fun _ _ => rfl)] at a
  have b := su_le (f := gi x) (g := gi l) (n := k) (fun i hi => (h.le hw h0 h1 (by omega)).2)
  have c := hw.su_le hk
  omega

set_option maxHeartbeats 16000000 in
set_option maxRecDepth 100000 in
theorem shs_any (t : Int) (A : Option Addr) (c : Nat) (l : List Int) (hn : l.length ≤ 9223372036854775807) (w : World) (hr : Rd w A (ints l)) :
    Calls Try.prog 5 #[.int .i64 t, .slice A l.length c] w fun e w' => e = .returned (.bool true) ∧ Below w.heap.size w w' := by
  refine rebase w (fun V hV x0 => ?_)
  subst hV
  have CS := Lib.hid (fun u : BelW V => bel_of (small_any u.w))
  by_cases hW : Wt l
  case neg =>
    have CW := Lib.hid (fun u : BelW V => whole_nil l hW A c hn u hr)
    have CN := Lib.hid (fun u : BelW V => share_nil t l l.length rfl hn (fun h => hW h.1) A c u (hr.bel u))
    clear hW hr
    go_enter Try.func5, Try.ntmps5
    go_wp2_with (first | (go_at_call 9; with_reducible refine (CS.out _).mono ?_; rintro e w' ⟨rfl, yy, rfl⟩) | (go_at_call 23; with_reducible refine (CW.out _).mono ?_; rintro e w' ⟨rfl, yy, rfl⟩) | (go_at_call 12; with_reducible refine (CN.out _).mono ?_; rintro e w' ⟨rfl, yy, rfl⟩))
    go_ret
    exact ⟨rfl, BelW.below4 _⟩
  obtain ⟨S, hS⟩ : ∃ S, l.sum = S := ⟨_, rfl⟩
  have CW := Lib.hid (fun u : BelW V => whole_yes l hW S hS A c hn u hr)
  have hS0 : 0 ≤ S := by rw [← hS]; exact hW.nonneg
  have hS1 : S ≤ 1125899906842624 := by rw [← hS]; exact hW.sum
  by_cases h0 : t < 0
  · have t1 : decide (0 ≤ t) = false := decide_eq_false (by omega)
    have CN := Lib.hid (fun u : BelW V => share_nil t l l.length rfl hn (fun h => by omega) A c u (hr.bel u))
    clear hW hr hS hS0 hS1
    go_enter Try.func5, Try.ntmps5
    go_wp2_with (first | (go_at_call 9; with_reducible refine (CS.out _).mono ?_; rintro e w' ⟨rfl, yy, rfl⟩) | (go_at_call 23; with_reducible refine (CW.out _).mono ?_; rintro e w' ⟨rfl, yy, rfl⟩) | (go_at_call 12; with_reducible refine (CN.out _).mono ?_; rintro e w' ⟨rfl, yy, rfl⟩))
    go_ret
    exact ⟨rfl, BelW.below4 _⟩
  have t1 : decide (0 ≤ t) = true := decide_eq_true (by omega)
  by_cases h1 : S < t
  · have t2 : decide (t ≤ S) = false := decide_eq_false (by omega)
    have CN := Lib.hid (fun u : BelW V => share_nil t l l.length rfl hn (fun h => by omega) A c u (hr.bel u))
    clear hW hr hS hS0 hS1
    go_enter Try.func5, Try.ntmps5
    go_wp2_with (first | (go_at_call 9; with_reducible refine (CS.out _).mono ?_; rintro e w' ⟨rfl, yy, rfl⟩) | (go_at_call 23; with_reducible refine (CW.out _).mono ?_; rintro e w' ⟨rfl, yy, rfl⟩) | (go_at_call 12; with_reducible refine (CN.out _).mono ?_; rintro e w' ⟨rfl, yy, rfl⟩))
    go_ret
    exact ⟨rfl, BelW.below4 _⟩
  have t2 : decide (t ≤ S) = true := decide_eq_true (by omega)
  have g0 : 0 ≤ t := by omega
  have g1 : t ≤ l.sum := by omega
  have HW := Lib.hid hW
  have HS := Lib.hid hS
  have HR := Lib.hid hr
  obtain ⟨M, hM⟩ : ∃ M, max S 1 = M := ⟨_, rfl⟩
  have hMw : wOf l = M := by unfold wOf; rw [hS]; exact hM
  have hMb : 1 ≤ M ∧ M ≤ 1125899906842624 := by omega
  have HM := Lib.hid hMw
  clear hW hS hr hMw h0 h1
  have CN := Lib.hid (fun u : BelW V => share_any t A c l hn u.w (HR.out.bel u))
  go_enter Try.func5, Try.ntmps5
  go_upto_region 3 with (first | (go_at_call 9; with_reducible refine (CS.out _).mono ?_; rintro e w' ⟨rfl, yy, rfl⟩) | (go_at_call 23; with_reducible refine (CW.out _).mono ?_; rintro e w' ⟨rfl, yy, rfl⟩))
  go_wp2_with fail
  refine (CN.out _).mono ?_
  rintro e w' (⟨g, x, rfl, _, _, _, hx, hI, hB⟩ | ⟨_, hno, _⟩)
  case inr => exact absurd ⟨HW.out, g0, g1⟩ hno
  have HX := Lib.hid hx
  have hB1 := Lib.hid (show Below V.heap.size V w' from below_next yy.2 hB)
  have HRX := Lib.hid hI
  have HRL := Lib.hid (HR.out.below (Nat.le_refl _) hB1.out)
  clear hx hI hB CN CW CS
  go_upto_region 10 with fail
  refine wp_rebase _ (fun U hU z0 => ?_)
  subst hU
  go_wp2_with fail
  go_loopw [10, 11, 12, 13, 14, 15] (fun s10 s11 s12 s13 s14 s15 wr => ShsR U t l x s10 s11 s12 s13 s14 s15 wr) (fun _ _ _ _ _ i _ => l.length - (intOf i).toNat)
  case atStart => exact ⟨0, -1, 0, -1, 0, by omega, rfl, rfl, rfl, rfl, rfl, rfl, Lib.hid (.inl rfl), Lib.hid (.inl rfl), z0, rfl⟩
  case round =>
    obtain ⟨k, wo, la, be, fi, hk, rfl, rfl, rfl, rfl, rfl, rfl, hwo, hbe, y, rfl⟩ := hrel
    by_cases hlt : k < l.length
    · have i3 : decide ((k : Int) < (l.length : Int)) = true := decide_eq_true (by omega)
      have hxl := HX.out.len
      obtain ⟨ad, u, rfl, _, e1, e2⟩ := HRL.out.at (k := k) (by rw [ints_length]; exact hlt)
      rw [ints_at hlt] at e1
      cases e1
      have f2 := HRX.out.cell hlt
      have j1 : (0 : Int) ≤ (k : Int) := by omega
      have j2 : (k : Int) < (l.length : Int) := by omega
      have b1 := su_share_le HX.out HW.out g0 g1 hk
      have b2 := HX.out.le HW.out g0 g1 hlt
      have b3 := HW.out.le hlt
      have b4 := HW.out.pos k hlt
      have b9 := HW.out.sum
      have b5 := HX.out.two k hlt
      have b6 := qq_le HW.out g0 g1 hlt
      have b7 : gi x k = qq t l k + 1 → 0 < rr t l k := HX.out.no_up HW.out g0 g1 hlt
      have b8 := rr_nonneg t l k
      have hwn := fun h => Lib.hid (show Wo t l x (rr t l k) (k : Int) from .inr ⟨k, rfl, hlt, h, rfl⟩)
      have hbn := fun h => Lib.hid (show Be t l x (rr t l k) (k : Int) from .inr ⟨k, rfl, hlt, h, rfl⟩)
      have hsx : su (gi x) (k + 1) = su (gi x) k + gi x k := rfl
      have hsc : Xa.scale t (gi l k) M = (qq t l k, rr t l k, true) := by
        unfold qq rr
        rw [HM.out]
        refine Xa.scale_yes ⟨by omega, by omega, by omega, by omega, by omega, by omega, ?_⟩
        have : qq t l k ≤ 1125899906842624 := by omega
        unfold qq at this
        rw [HM.out] at this
        exact this
      obtain ⟨v, hv⟩ : ∃ v, gi l k = v := ⟨_, rfl⟩
      obtain ⟨xi, hxi⟩ : ∃ v, gi x k = v := ⟨_, rfl⟩
      obtain ⟨q, hq⟩ : ∃ v, qq t l k = v := ⟨_, rfl⟩
      obtain ⟨r, hr⟩ : ∃ v, rr t l k = v := ⟨_, rfl⟩
      obtain ⟨E, hE⟩ : ∃ v, su (gi x) k = v := ⟨_, rfl⟩
      rw [hv] at e2 hsc b2 b3 b4 b6
      rw [hq] at hsc b5 b6 b7 hwn hbn
      rw [hr] at hsc b7 b8 hwn hbn
      rw [hxi] at f2 b2 b5 b7 hwn hbn hsx
      rw [hE] at b1 hsx ⊢
      have C1 := Lib.hid (fun u : BelW U => scale_c t v M q r true hsc u)
      have HSX := Lib.hid hsx
      clear hv hq hr hxi hE hsc hsx
      have wE : IntKind.i64.wrap (E + xi) = E + xi := IntWalk.i64_in _ (by omega)
      have wq : IntKind.i64.wrap (q + 1) = q + 1 := IntWalk.i64_in _ (by omega)
      have c1 := fun z : BelW U => BelW.cells e2 z
      have c2 := fun z : BelW U => BelW.cells f2 z
      have d1 : decide (v < xi) = false := decide_eq_false (by omega)
      clear e2 f2
      rcases b5 with hd | hu
      · -- rounded down
        have hbn' := hbn hd
        have d2 : (xi != q) = false := bne_eq_false_iff_eq.2 hd
        have d3 : (xi == q + 1) = false := beq_eq_false_iff_ne.2 (by omega)
        have d4 : (xi == q) = true := beq_iff_eq.2 hd
        clear hwn hbn b1 b2 b3 b4 b6 b7 b8 b9 hd
        by_cases hbr : be < r
        · have d5 : decide (be < r) = true := decide_eq_true hbr
          go_upto_region 20 with (first | (go_at_call 10; with_reducible refine (C1.out _).mono ?_; rintro e w' ⟨rfl, yy, rfl⟩))
          refine wp_region_belx (by kernel_rfl) (by kernel_rfl) ?_
          repeat (go_big_quiet_step (fail))
          refine wpQuiet_nil ?_
          intro zz
          go_wp2_with fail
          go_roundw
          case rel => exact ⟨k + 1, wo, la, r, (k : Int), by omega, by go_num, by rw [HSX.out], rfl, rfl, rfl, rfl, hwo, hbn', _, rfl⟩
          case measure => simp [intOf]; omega
        · have d5 : decide (be < r) = false := decide_eq_false hbr
          go_upto_region 20 with (first | (go_at_call 10; with_reducible refine (C1.out _).mono ?_; rintro e w' ⟨rfl, yy, rfl⟩))
          refine wp_region_belx (by kernel_rfl) (by kernel_rfl) ?_
          repeat (go_big_quiet_step (fail))
          refine wpQuiet_nil ?_
          intro zz
          go_wp2_with fail
          go_roundw
          case rel => exact ⟨k + 1, wo, la, be, fi, by omega, by go_num, by rw [HSX.out], rfl, rfl, rfl, rfl, hwo, hbe, _, rfl⟩
          case measure => simp [intOf]; omega
      · have hwn' := hwn hu
        have d2 : (xi != q) = true := bne_iff_ne.2 (by omega)
        have d3 : (xi == q + 1) = true := beq_iff_eq.2 hu
        have d4 : (xi == q) = false := beq_eq_false_iff_ne.2 (by omega)
        have d6 : (r == 0) = false := beq_eq_false_iff_ne.2 (by have := b7 hu; omega)
        have d7 : (xi != q + 1) = false := bne_eq_false_iff_eq.2 hu
        clear hwn hbn b1 b2 b3 b4 b6 b7 b8 b9 hu
        by_cases hw0 : wo < 0
        · have d8 : decide (wo < 0) = true := decide_eq_true hw0
          go_upto_region 20 with (first | (go_at_call 10; with_reducible refine (C1.out _).mono ?_; rintro e w' ⟨rfl, yy, rfl⟩))
          refine wp_region_belx (by kernel_rfl) (by kernel_rfl) ?_
          repeat (go_big_quiet_step (fail))
          refine wpQuiet_nil ?_
          intro zz
          go_wp2_with fail
          go_roundw
          case rel => exact ⟨k + 1, r, (k : Int), be, fi, by omega, by go_num, by rw [HSX.out], rfl, rfl, rfl, rfl, hwn', hbe, _, rfl⟩
          case measure => simp [intOf]; omega
        · have d8 : decide (wo < 0) = false := decide_eq_false hw0
          by_cases hrw : r ≤ wo
          · have d9 : decide (r ≤ wo) = true := decide_eq_true hrw
            go_upto_region 20 with (first | (go_at_call 10; with_reducible refine (C1.out _).mono ?_; rintro e w' ⟨rfl, yy, rfl⟩))
            refine wp_region_belx (by kernel_rfl) (by kernel_rfl) ?_
            repeat (go_big_quiet_step (fail))
            refine wpQuiet_nil ?_
            intro zz
            go_wp2_with fail
            go_roundw
            case rel => exact ⟨k + 1, r, (k : Int), be, fi, by omega, by go_num, by rw [HSX.out], rfl, rfl, rfl, rfl, hwn', hbe, _, rfl⟩
            case measure => simp [intOf]; omega
          · have d9 : decide (r ≤ wo) = false := decide_eq_false hrw
            go_upto_region 20 with (first | (go_at_call 10; with_reducible refine (C1.out _).mono ?_; rintro e w' ⟨rfl, yy, rfl⟩))
            refine wp_region_belx (by kernel_rfl) (by kernel_rfl) ?_
            repeat (go_big_quiet_step (fail))
            refine wpQuiet_nil ?_
            intro zz
            go_wp2_with fail
            go_roundw
            case rel => exact ⟨k + 1, wo, la, be, fi, by omega, by go_num, by rw [HSX.out], rfl, rfl, rfl, rfl, hwo, hbe, _, rfl⟩
            case measure => simp [intOf]; omega
    · have i3 : decide ((k : Int) < (l.length : Int)) = false := decide_eq_false (by omega)
      obtain rfl : k = l.length := by omega
      have hsum := HX.out.sum_su'
      have hend := ends_shares HX.out hwo.out hbe.out
      have HB := Lib.hid (show Below V.heap.size V y.w from below_next hB1.out y.2)
      rw [hsum]
      clear hwo hbe hsum
      rcases hend with h | ⟨h, h'⟩ | ⟨h, h', h''⟩ | ⟨h, h', h'', h3⟩
      · have a1 : decide (wo < 0) = true := decide_eq_true h
        clear h
        go_wp2_with fail
        go_ret
        exact ⟨rfl, HB.out⟩
      · have a1 : decide (wo < 0) = false := decide_eq_false (by omega)
        have a2 : decide (be < 0) = true := decide_eq_true h'
        clear h h'
        go_wp2_with fail
        go_ret
        exact ⟨rfl, HB.out⟩
      · have a1 : decide (wo < 0) = false := decide_eq_false (by omega)
        have a2 : decide (be < 0) = false := decide_eq_false (by omega)
        have a3 : decide (be < wo) = true := decide_eq_true h''
        clear h h' h''
        go_wp2_with fail
        go_ret
        exact ⟨rfl, HB.out⟩
      · have a1 : decide (wo < 0) = false := decide_eq_false (by omega)
        have a2 : decide (be < 0) = false := decide_eq_false (by omega)
        subst h''
        have a4 : decide (la < fi) = true := decide_eq_true h3
        clear h h' h3
        go_wp2_with fail
        go_ret
        exact ⟨rfl, HB.out⟩

end Go.Proofs.Ytemdnfodpijncaa
