/- bourneref01.Share: the walk. -/
import Derived.Test.YtfmnlnmajephlaaRefShr
namespace Go.Proofs.Ytfmnlnmajephlaa
open Go.RowKit
set_option linter.unusedVariables false
set_option linter.unusedSimpArgs false

theorem info_i2 : (Try.prog.info? 3).map (fun i => (i.zero, i.size, i.bytes)) = some (some (.int .i64 0), 1, 8) := by kernel_rfl
theorem info_b2 : (Try.prog.info? 4).map (fun i => (i.zero, i.size, i.bytes)) = some (some (.bool false), 1, 1) := by kernel_rfl
theorem br_made {w : World} {B g n : Nat} (h : w.ownsRow B 4 1 (.slice (some ⟨g, 0, none⟩) n n) n (madeCells #[Value.bool false] n).toList) : BR w B g n (fun _ => false) := by
  unfold BR
  have e : bl n (fun _ => false) = List.replicate n (Value.bool false) := List.ext_getElem (by simp [bl]) fun i h1 h2 => by simp [bl]
  rw [e, ← toList_madeCells_one]
  exact h
def RhA (V : World) (l : List Int) (s6 s7 : Value) (wr : World) : Prop := ∃ k : Nat, k ≤ l.length ∧ s7 = .int .i64 (k : Int) ∧ s6 = .int .i64 (su (gi l) k) ∧ Hid (WtK l k) ∧ ∃ y : BelW V, wr = y.w
def RhB (V : World) (t : Int) (l : List Int) (P R : Nat) (s10 s11 : Value) (wr : World) : Prop :=
  ∃ k : Nat, k ≤ l.length ∧ s11 = .int .i64 (k : Int) ∧ s10 = .int .i64 (t - su (qq t l) k) ∧ Below V.heap.size V wr ∧ IR wr V.heap.size P l.length (fl l.length k (qq t l)) ∧ IR wr V.heap.size R l.length (fl l.length k (rr t l))
def RhC (V : World) (t : Int) (l : List Int) (P R M e : Nat) (s10 : Value) (wr : World) : Prop :=
  ∃ D : List Nat, D.length ≤ e ∧ s10 = .int .i64 ((e : Int) - (D.length : Int)) ∧ Hid (Closed t l D) ∧ Below V.heap.size V wr ∧ IR wr V.heap.size P l.length (pts t l D) ∧ IR wr V.heap.size R l.length (fl l.length l.length (rr t l)) ∧ BR wr V.heap.size M l.length (fun i => decide (i ∈ D))
def RhZ (V : World) (l : List Int) (P : Nat) (s10 s11 : Value) (wr : World) : Prop := s10 = .int .i64 0 ∧ s11 = .int .i64 0 ∧ Below V.heap.size V wr ∧ IR wr V.heap.size P l.length (fl l.length 0 (qq 0 l))
def RhY (V : World) (l : List Int) (P : Nat) (s10 : Value) (wr : World) : Prop := s10 = .int .i64 0 ∧ Below V.heap.size V wr ∧ IR wr V.heap.size P l.length (fl l.length 0 (qq 0 l))
theorem BR.base {w : World} {B g n : Nat} {m : Nat → Bool} {m' : Nat → Bool} (h : BR w B g n m) (e : ∀ i, i < n → m i = m' i) : BR w B g n m' := by
  have : bl n m = bl n m' := List.ext_getElem (by simp [bl]) fun i h1 h2 => by simp [bl] at h1 ⊢; exact e i h1
  unfold BR at h ⊢
  rwa [this] at h

set_option maxHeartbeats 16000000 in
set_option maxRecDepth 100000 in
theorem refshare_any (t : Int) (A : Option Addr) (c : Nat) (l : List Int) (hn : l.length ≤ 9223372036854775807) (w : World) (hr : Rd w A (ints l)) :
    Calls Try.prog 31 #[.int .i64 t, .slice A l.length c] w (SharePost t l w) := by
  obtain ⟨i0, hi0, hz0, hz1, hz2⟩ := info_parts info_i2
  obtain ⟨j0, hj0, hy0, hy1, hy2⟩ := info_parts info_b2
  have HR := Lib.hid hr
  clear hr
  by_cases h64 : 64 < l.length
  · have t0 : decide ((64 : Int) < (l.length : Int)) = true := decide_eq_true (by omega)
    have hno : ¬ Wt l := fun h => by have := h.len; omega
    clear hi0 hz0 hz1 hz2 hj0 hy0 hy1 hy2
    go_enter Try.func31, Try.ntmps31
    go_wp2_with fail
    go_ret2
    exact share_no (fun h => hno h.1) (Below.refl _ _)
  have t0 : decide ((64 : Int) < (l.length : Int)) = false := decide_eq_false (by omega)
  have hmk : i0.bytes * l.length ≤ 281474976710656 := by rw [hz2]; omega
  have hmb : j0.bytes * l.length ≤ 281474976710656 := by rw [hy2]; omega
  have hml : l.length ≤ maxLen := by unfold maxLen; omega
  have INF := Lib.hid (And.intro hi0 (And.intro hz0 (And.intro hz1 (And.intro hmk hml))))
  have INB := Lib.hid (And.intro hj0 (And.intro hy0 (And.intro hy1 (And.intro hmb hml))))
  clear hi0 hz0 hz1 hz2 hmk hml hj0 hy0 hy1 hy2 hmb
  go_enter Try.func31, Try.ntmps31
  go_wp2_with fail
  go_loopw [6, 7] (fun s6 s7 wr => RhA w l s6 s7 wr) (fun _ i _ => l.length - (intOf i).toNat)
  case atStart => exact ⟨0, by omega, rfl, rfl, Lib.hid ⟨fun i hi => absurd hi (Nat.not_lt_zero _), by show (0 : Int) ≤ _; omega⟩, ⟨w, Below.refl _ _⟩, rfl⟩
  case round =>
    obtain ⟨k, hk, rfl, rfl, hwt, y, rfl⟩ := hrel
    have s1 := hwt.out.nonneg
    have s2 := hwt.out.sum
    by_cases hlt : k < l.length
    · have i3 : decide ((k : Int) < (l.length : Int)) = true := decide_eq_true (by omega)
      obtain ⟨ad, u, rfl, hadb, e1, e2⟩ := (HR.out.bel y).at (k := k) (by rw [ints_length]; exact hlt)
      rw [ints_at hlt] at e1
      cases e1
      have j1 : (0 : Int) ≤ (k : Int) := by omega
      have j2 : (k : Int) < (l.length : Int) := by omega
      have HL := Lib.hid hlt
      obtain ⟨S, hS⟩ : ∃ S, su (gi l) k = S := ⟨_, rfl⟩
      obtain ⟨v, hv⟩ : ∃ v, gi l k = v := ⟨_, rfl⟩
      rw [hS] at s1 s2
      rw [hv] at e2
      rw [hS]
      have wS : IntKind.i64.wrap (1125899906842624 - S) = 1125899906842624 - S := IntWalk.i64_in _ (by omega)
      have HS := Lib.hid hS
      have HV := Lib.hid hv
      clear hS hv
      by_cases v0 : v < 0
      · have v0' : decide (v < 0) = true := decide_eq_true v0
        go_wp2_with fail
        go_ret2
        exact share_no (fun h => not_wt_neg HL.out (by rw [HV.out]; exact of_decide_eq_true v0') h.1) y.2
      have v0' : decide (v < 0) = false := decide_eq_false v0
      by_cases v1 : 1125899906842624 - S < v
      · have v1' : decide (1125899906842624 - S < v) = true := decide_eq_true v1
        go_wp2_with fail
        go_ret2
        exact share_no (fun h => not_wt_sum HL.out (by rw [HV.out, HS.out]; exact of_decide_eq_true v1') h.1) y.2
      have v1' : decide (1125899906842624 - S < v) = false := decide_eq_false v1
      have wA : IntKind.i64.wrap (S + v) = S + v := IntWalk.i64_in _ (by omega)
      have HX := Lib.hid (hwt.out.step (by rw [HV.out]; omega) (by rw [HV.out, HS.out]; omega))
      have HZ := Lib.hid (show su (gi l) (k + 1) = S + v by show su (gi l) k + gi l k = _; rw [HV.out, HS.out])
      go_wp2_with fail
      go_roundw
      case rel => exact ⟨k + 1, by have := HL.out; omega, by go_num, by rw [HZ.out], HX, y, rfl⟩
      case measure => have := HL.out; simp [intOf]; omega
    · have i3 : decide ((k : Int) < (l.length : Int)) = false := decide_eq_false (by omega)
      obtain rfl : k = l.length := by omega
      have HW := Lib.hid (hwt.out.all (by omega))
      rw [← sum_su] at s1 s2 ⊢
      obtain ⟨S, hS⟩ : ∃ S, l.sum = S := ⟨_, rfl⟩
      rw [hS] at s1 s2
      rw [hS]
      have HS := Lib.hid hS
      clear hS hwt
      by_cases t1 : t < 0
      · have t1' : decide (t < 0) = true := decide_eq_true t1
        go_wp2_with fail
        go_ret2
        exact share_no (fun h => by have := of_decide_eq_true t1'; omega) y.2
      have t1' : decide (t < 0) = false := decide_eq_false t1
      by_cases t2 : S < t
      · have t2' : decide (S < t) = true := decide_eq_true t2
        go_wp2_with fail
        go_ret2
        exact share_no (fun h => by have := of_decide_eq_true t2'; rw [HS.out] at h; omega) y.2
      have t2' : decide (S < t) = false := decide_eq_false t2
      have hby : Below w.heap.size w y.w := y.2
      go_upto_region 12 with fail
      go_wp2_with (first | (at_make; refine wpList_make_full _ rfl _ _ 22 rfl w.heap.size 3 i0 (.int .i64 0) 1 Try.underlying22 INF.out.1 INF.out.2.1 INF.out.2.2.1 _ _ _ _ l.length rfl rfl rfl rfl INF.out.2.2.2.1 INF.out.2.2.2.2 y.2.size ?_))
      intro w1 hown1 hg1
      have HI1 := Lib.hid (ir_made (qq t l) hown1)
      have HB1 := Lib.hid (below_grown hby hg1 (fun k hk => by cases hk))
      clear hown1 hg1
      go_upto_region 13 with fail
      go_wp2_with (first | (at_make; refine wpList_make_full _ rfl _ _ 22 rfl w.heap.size 3 i0 (.int .i64 0) 1 Try.underlying22 INF.out.1 INF.out.2.1 INF.out.2.2.1 _ _ _ _ l.length rfl rfl rfl rfl INF.out.2.2.2.1 INF.out.2.2.2.2 HB1.out.size ?_))
      intro w2 hown2 hg2
      have HI2 := Lib.hid (ir_made (rr t l) hown2)
      have HJ1 := Lib.hid (HI1.out.kept hg2 (by simp))
      have HB2 := Lib.hid (below_grown HB1.out hg2 (fun k hk => by cases hk))
      have hPR : y.w.heap.size < w1.heap.size := HI1.out.lt.2
      have hRl : w1.heap.size < w2.heap.size := HI2.out.lt.2
      clear hown2 hg2
      obtain ⟨P, hP⟩ : ∃ P, y.w.heap.size = P := ⟨_, rfl⟩
      obtain ⟨R, hR⟩ : ∃ P, w1.heap.size = P := ⟨_, rfl⟩
      rw [hP] at HJ1 hPR ⊢
      rw [hR] at HI2 hPR hRl ⊢
      clear hP hR hby HI1 HB1
      have n1 : P ≠ R := by omega
      by_cases t3 : S = 0
      · have t3' : decide (0 < S) = false := decide_eq_false (by omega)
        obtain rfl : t = 0 := by omega
        have HZ1 := Lib.hid (share_zero (f := qq 0 l) (by rw [HS.out]; exact t3))
        clear t3
        go_wp2_with fail
        go_loopw [10, 11] (fun s10 s11 wr => RhZ w l P s10 s11 wr) (fun _ i _ => 1)
        case atStart => exact ⟨rfl, rfl, HB2.out, HJ1.out⟩
        case round =>
          obtain ⟨rfl, rfl, hB, hP⟩ := hrel
          have HB3 := Lib.hid hB
          have HP3 := Lib.hid hP
          clear hB hP
          by_cases hl0 : 0 < l.length
          · have i3 : decide ((0 : Int) < (l.length : Int)) = true := decide_eq_true (by omega)
            go_upto_region 22 with fail
            go_wp2_with (first | (at_make; refine wpList_make_full _ rfl _ _ 51 rfl w.heap.size 4 j0 (.bool false) 1 Try.underlying51 INB.out.1 INB.out.2.1 INB.out.2.2.1 _ _ _ _ l.length rfl rfl rfl rfl INB.out.2.2.2.1 INB.out.2.2.2.2 HB3.out.size ?_))
            intro w3 hown3 hg3
            have HP4 := Lib.hid (HP3.out.kept hg3 (by simp))
            have HB4 := Lib.hid (below_grown HB3.out hg3 (fun k hk => by cases hk))
            clear hown3 hg3
            go_wp2_with fail
            go_loopw [10] (fun s10 wr => RhY w l P s10 wr) (fun i _ => 1)
            case atStart => exact ⟨rfl, HB4.out, HP4.out⟩
            case round =>
              obtain ⟨rfl, hB, hP⟩ := hrel
              have HX := Lib.hid (And.intro hP hB)
              clear hB hP
              go_wp2_with fail
              go_ret2
              exact .inl ⟨P, _, rfl, HW.out, Int.le_refl _, by rw [HS.out]; omega, HZ1.out, HX.out.1, HX.out.2⟩
          · have i3 : decide ((0 : Int) < (l.length : Int)) = false := decide_eq_false (by omega)
            go_upto_region 22 with fail
            go_wp2_with (first | (at_make; refine wpList_make_full _ rfl _ _ 51 rfl w.heap.size 4 j0 (.bool false) 1 Try.underlying51 INB.out.1 INB.out.2.1 INB.out.2.2.1 _ _ _ _ l.length rfl rfl rfl rfl INB.out.2.2.2.1 INB.out.2.2.2.2 HB3.out.size ?_))
            intro w3 hown3 hg3
            have HP4 := Lib.hid (HP3.out.kept hg3 (by simp))
            have HB4 := Lib.hid (below_grown HB3.out hg3 (fun k hk => by cases hk))
            clear hown3 hg3
            go_wp2_with fail
            go_loopw [10] (fun s10 wr => RhY w l P s10 wr) (fun i _ => 1)
            case atStart => exact ⟨rfl, HB4.out, HP4.out⟩
            case round =>
              obtain ⟨rfl, hB, hP⟩ := hrel
              have HX := Lib.hid (And.intro hP hB)
              clear hB hP
              go_wp2_with fail
              go_ret2
              exact .inl ⟨P, _, rfl, HW.out, Int.le_refl _, by rw [HS.out]; omega, HZ1.out, HX.out.1, HX.out.2⟩
      have t3' : decide (0 < S) = true := decide_eq_true (by omega)
      have hS1 : l.sum ≥ 1 := by rw [HS.out]; omega
      have hw : wOf l = S := by unfold wOf; rw [HS.out]; omega
      have hex := extra_bounds (t := t) hS1
      have HEX := Lib.hid hex
      have HWO := Lib.hid hw
      clear hex hw hS1
      go_wp2_with fail
      go_loopw [10, 11] (fun s10 s11 wr => RhB w t l P R s10 s11 wr) (fun _ i _ => l.length - (intOf i).toNat)
      case atStart => exact ⟨0, by omega, rfl, by show _ = Value.int _ (t - 0); rw [Int.sub_zero], HB2.out, HJ1.out, HI2.out⟩
      case round =>
        obtain ⟨k, hk, rfl, rfl, hB, hP, hR⟩ := hrel
        by_cases hlt : k < l.length
        · have i3 : decide ((k : Int) < (l.length : Int)) = true := decide_eq_true (by omega)
          obtain ⟨ad, u, rfl, hadb, e1, e2⟩ := (HR.out.below (Nat.le_refl _) hB).at (k := k) (by rw [ints_length]; exact hlt)
          rw [ints_at hlt] at e1
          cases e1
          have j1 : (0 : Int) ≤ (k : Int) := by omega
          have j2 : (k : Int) < (l.length : Int) := by omega
          have hq := qq_le HW.out (by omega : 0 ≤ t) (by rw [HS.out]; omega) hlt
          have hle := HW.out.le hlt
          have hsq := suq_le HW.out (by omega : 0 ≤ t) (by rw [HS.out]; omega) hk
          have hv0 := HW.out.pos k hlt
          rw [HS.out] at hle
          have hqr : qq t l k = t * gi l k / S ∧ rr t l k = t * gi l k % S := by unfold qq rr; rw [HWO.out]; exact ⟨rfl, rfl⟩
          have SC := Lib.hid (refscale_any t (gi l k) S wr)
          rw [Xa.scale_yes ⟨by omega, by omega, hv0, by omega, by omega, s2, by rw [← hqr.1]; omega⟩, ← hqr.1, ← hqr.2] at SC
          have c1 := hP.cell hlt
          have f1 := hP.frozen k
          have g1 := grown_set wr P k (.int .i64 (qq t l k))
          have hP1 := hP.set k (qq t l k)
          have hR1 := hR.kept g1 (by simp; omega)
          have hB1 := below_grown hB g1 (fun i hi => by cases hi; exact hP.lt.1)
          have c2 := hR1.cell hlt
          have f2 := hR1.frozen k
          have g2 := grown_set (wr.setCell ⟨P, k, none⟩ (.int .i64 (qq t l k))) R k (.int .i64 (rr t l k))
          have hR2 := hR1.set k (rr t l k)
          have hP2 := hP1.kept g2 (by simp; omega)
          have hB2 := below_grown hB1 g2 (fun i hi => by cases hi; exact hR1.lt.1)
          rw [fl_set hlt] at hP2 hR2
          have HX := Lib.hid (And.intro hB2 (And.intro hP2 hR2))
          obtain ⟨v, hv⟩ : ∃ v, gi l k = v := ⟨_, rfl⟩
          obtain ⟨q, hqe⟩ : ∃ v, qq t l k = v := ⟨_, rfl⟩
          obtain ⟨r, hre⟩ : ∃ v, rr t l k = v := ⟨_, rfl⟩
          obtain ⟨E, hE⟩ : ∃ v, su (qq t l) k = v := ⟨_, rfl⟩
          rw [hv] at e2 SC hq
          rw [hqe, hre] at SC HX
          rw [hqe] at hq c2 f2
          rw [hE] at hsq ⊢
          have wE : IntKind.i64.wrap (t - E - q) = t - E - q := IntWalk.i64_in _ (by omega)
          have HZ := Lib.hid (show su (qq t l) (k + 1) = E + q by show su (qq t l) k + qq t l k = _; rw [hqe, hE])
          clear g1 g2 hP1 hR1 hB1 hR2 hP2 hB2 hq hsq hv hqe hre hE hqr hle hv0 hB hP hR
          have SC' := Lib.hid (show Calls Try.prog 39 #[.int .i64 t, .int .i64 v, .int .i64 S] wr fun e w' => e = .returned (.tuple #[.int .i64 q, .int .i64 r, .bool true]) ∧ wr = w' from SC.out)
          clear SC
          go_wp2_with (first | (go_at_call 39; with_reducible refine SC'.out.mono ?_; rintro e w' ⟨rfl, rfl⟩))
          go_roundw
          case rel => exact ⟨k + 1, by omega, by go_num, by rw [HZ.out, Int.sub_sub], HX.out⟩
          case measure => simp [intOf]; omega
        · have i3 : decide ((k : Int) < (l.length : Int)) = false := decide_eq_false (by omega)
          obtain rfl : k = l.length := by omega
          obtain ⟨e, he⟩ : ∃ e : Nat, t - su (qq t l) l.length = (e : Int) := ⟨(t - su (qq t l) l.length).toNat, by have := HEX.out.1; omega⟩
          have hen : e ≤ l.length := by have := HEX.out.2; omega
          have HE := Lib.hid he
          have HP1 := Lib.hid hP
          have HR1 := Lib.hid hR
          have HB3 := Lib.hid hB
          rw [he]
          clear he hB hP hR
          go_upto_region 22 with fail
          go_wp2_with (first | (at_make; refine wpList_make_full _ rfl _ _ 51 rfl w.heap.size 4 j0 (.bool false) 1 Try.underlying51 INB.out.1 INB.out.2.1 INB.out.2.2.1 _ _ _ _ l.length rfl rfl rfl rfl INB.out.2.2.2.1 INB.out.2.2.2.2 HB3.out.size ?_))
          intro w3 hown3 hg3
          have HM3 := Lib.hid (br_made hown3)
          have HP3 := Lib.hid (HP1.out.kept hg3 (by simp))
          have HR3 := Lib.hid (HR1.out.kept hg3 (by simp))
          have HB4 := Lib.hid (below_grown HB3.out hg3 (fun k hk => by cases hk))
          have hRM : R < wr.heap.size := HR1.out.lt.2
          have hPM : P < wr.heap.size := HP1.out.lt.2
          clear hown3 hg3
          obtain ⟨M, hM⟩ : ∃ M, wr.heap.size = M := ⟨_, rfl⟩
          rw [hM] at HM3 hRM hPM ⊢
          clear hM HP1 HR1 HB3 HB2 HJ1 HI2 HWO
          have n2 : P ≠ M := by omega
          have n3 : R ≠ M := by omega
          go_wp2_with fail
          go_loopw [10] (fun s10 wr => RhC w t l P R M e s10 wr) (fun i _ => (intOf i).toNat)
          case atStart =>
            refine ⟨[], by simp, by simp, Lib.hid ⟨List.nodup_nil, fun i hi => (by cases hi), fun i j hi => (by cases hi)⟩, HB4.out, ?_, HR3.out, HM3.out.base (fun i hi => by simp)⟩
            have e0 : fl l.length l.length (qq t l) = pts t l [] := gi_ext (by rw [fl_length, pts_length]) fun i hi => by
              rw [fl_length] at hi
              rw [fl_at hi, pts_at hi, if_pos hi, if_neg (by simp), Int.add_zero]
            rw [← e0]
            exact HP3.out
          case round =>
            obtain ⟨D, hD, rfl, hC, hB, hP, hR, hM⟩ := hrel
            by_cases hlt : D.length < e
            · have i3 : decide ((0 : Int) < (e : Int) - (D.length : Int)) = true := decide_eq_true (by omega)
              have wL : IntKind.i64.wrap ((e : Int) - (D.length : Int) - 1) = (e : Int) - (D.length : Int) - 1 := IntWalk.i64_in _ (by omega)
              have HN := Lib.hid (next_any R M l.length (fl l.length l.length (rr t l)) (fun i => decide (i ∈ D)) (fl_length _ _ _) hn wr hR.rd' hM.rd)
              have HX := Lib.hid (And.intro hB (And.intro hP (And.intro hR hM)))
              clear hB hP hR hM
              go_upto_region 24 with fail
              go_wp2_with fail
              refine HN.out.mono ?_
              rintro e' w4 ⟨v, rfl, hnx, hbl⟩
              obtain ⟨i, rfl, hi, hmi, hmin⟩ : ∃ i : Nat, v = (i : Int) ∧ i < l.length ∧ i ∉ D ∧ ∀ j, j < l.length → j ∉ D → rr t l j < rr t l i ∨ (rr t l j = rr t l i ∧ i ≤ j) := by
                rcases hnx with ⟨_, hall⟩ | ⟨i, a, b, cc, d⟩
                · obtain ⟨j, hj, hjd⟩ := closed_room hC.out.1 hC.out.2.1 (by omega)
                  have := hall j hj
                  exact absurd (of_decide_eq_true this) hjd
                · refine ⟨i, a, b, of_decide_eq_false cc, fun j hj hjd => ?_⟩
                  have := d j hj (decide_eq_false hjd)
                  rw [fl_at hj, fl_at b, if_pos hj, if_pos b] at this
                  exact this
              obtain ⟨hC2, hset, hval⟩ := closed_step hC.out hi hmi hmin
              have gb : wr.grownBy w4 none := grown_bel ⟨w4, hbl⟩
              have hB := below_grown HX.out.1 gb (fun k hk => by cases hk)
              have hP := HX.out.2.1.kept gb (by simp)
              have hR := HX.out.2.2.1.kept gb (by simp)
              have hM := HX.out.2.2.2.kept gb (by simp)
              have hq := qq_le HW.out (by omega : 0 ≤ t) (by rw [HS.out]; omega) hi
              have hle := HW.out.le hi
              rw [HS.out] at hle
              have c1 := hP.cell hi
              have f1 := hP.frozen i
              rw [hval] at c1 hset
              have g1 := grown_set w4 P i (.int .i64 (qq t l i + 1))
              have hP1 := hP.set i (qq t l i + 1)
              rw [hset] at hP1
              have hR1 := hR.kept g1 (by simp; omega)
              have hM1 := hM.kept g1 (by simp; omega)
              have hB1 := below_grown hB g1 (fun k hk => by cases hk; exact hP.lt.1)
              have c2 := hM1.cell hi
              have f2 := hM1.frozen i
              have g2 := grown_set (w4.setCell ⟨P, i, none⟩ (.int .i64 (qq t l i + 1))) M i (.bool true)
              have hP2 := hP1.kept g2 (by simp; omega)
              have hR2 := hR1.kept g2 (by simp; omega)
              have hM2 := hM1.set hi
              have hM3 := hM2.base (m' := fun j => decide (j ∈ i :: D)) (fun j hj => by
                by_cases e : j = i
                · subst e; simp
                · rw [if_neg e]; simp [e])
              have hB2 := below_grown hB1 g2 (fun k hk => by cases hk; exact hM1.lt.1)
              have HY := Lib.hid (And.intro hB2 (And.intro hP2 (And.intro hR2 hM3)))
              have HC2 := Lib.hid hC2
              obtain ⟨q, hqe⟩ : ∃ v, qq t l i = v := ⟨_, rfl⟩
              rw [hqe] at c1 c2 f2 HY hq
              have wq : IntKind.i64.wrap (q + 1) = q + 1 := IntWalk.i64_in _ (by omega)
              have k1 : (0 : Int) ≤ (i : Int) := by omega
              have k2 : (i : Int) < (l.length : Int) := by omega
              clear hset hval hmin hmi hnx hbl gb hB hP hR hM hq hle g1 hP1 hR1 hM1 hB1 g2 hP2 hR2 hM2 hM3 hB2 hqe hC2
              go_wp2_with fail
              go_roundw
              case rel => exact ⟨i :: D, by simp; omega, by rw [List.length_cons, show (e : Int) - ((D.length + 1 : Nat) : Int) = (e : Int) - (D.length : Int) - 1 by omega], HC2, HY.out⟩
              case measure => simp [intOf]; omega
            · have hDe : D.length = e := by omega
              have i3 : decide ((0 : Int) < (e : Int) - (D.length : Int)) = false := decide_eq_false (by omega)
              have HX := Lib.hid (And.intro hB hP)
              have HSH := Lib.hid (share_closed hC.out (by rw [hDe, HE.out]))
              clear hB hP hR hM
              go_wp2_with fail
              go_ret2
              exact .inl ⟨P, _, rfl, HW.out, by omega, by rw [HS.out]; omega, HSH.out, HX.out.2, HX.out.1⟩

end Go.Proofs.Ytfmnlnmajephlaa
