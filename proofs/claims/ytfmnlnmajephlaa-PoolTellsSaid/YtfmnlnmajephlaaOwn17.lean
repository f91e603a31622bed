/- PoolOwns: the walk. -/
import Derived.Test.YtfmnlnmajephlaaSmall17
namespace Go.Proofs.Ytfmnlnmajephlaa
open Go.RowKit
set_option linter.unusedVariables false
set_option linter.unusedSimpArgs false

theorem BelW.below7 {w : World} (x : BelW w) : Below w.heap.size w x.w := x.2
def Rng (V : World) (n : Nat) (s : Value) (wr : World) : Prop := ∃ k : Nat, k ≤ n ∧ s = .int .i64 (k : Int) ∧ ∃ y : BelW V, wr = y.w
theorem fromT_at {n : Nat} {o m : Int} {i : Nat} (h : i < n) : gi (fromT n o m) i = if (i : Int) = o ∧ 0 < m then m else 0 := gl_at h
theorem from_want {p : List Int} (hr : RiP p) {o k : Int} {i : Nat} (hi : i < p.length) : gi (fromT p.length o (min k (hasF p o))) i = if (i : Int) = o ∧ 0 < k then min k (gi p i) else 0 := by
  rw [fromT_at hi]
  have h0 := hr.pos i hi
  by_cases e : (i : Int) = o
  · subst e
    rw [hasF_nat hi h0]
    by_cases hm : 0 < min k (gi p i)
    · rw [if_pos ⟨rfl, hm⟩, if_pos ⟨rfl, by omega⟩]
    · rw [if_neg (fun h => hm h.2)]
      by_cases hk : 0 < k
      · rw [if_pos ⟨rfl, hk⟩]; omega
      · rw [if_neg (fun h => hk h.2)]
  · rw [if_neg (fun h => e h.1), if_neg (fun h => e h.1)]

set_option maxHeartbeats 16000000 in
set_option maxRecDepth 100000 in
theorem owns_any (A : Option Addr) (c : Nat) (p : List Int) (hn : p.length ≤ 9223372036854775807) (hf : ∀ i, i < p.length → Fit (gi p i)) (o k : Int) (w : World) (hr : Rd w A (ints p)) :
    Calls Try.prog 4 #[.slice A p.length c, .int .i64 o, .int .i64 k] w fun e w' => e = .returned (.bool true) ∧ Below w.heap.size w w' := by
  refine rebase w (fun V hV x0 => ?_)
  subst hV
  have CS := Lib.hid (fun u : BelW V => bel_of (small_any u.w))
  cases hb : rightF p (p.length : Int)
  case false =>
    have CR := Lib.hid (fun u : BelW V => right_c A c p p.length _ rfl hn false hb u (hr.bel u))
    clear hb hr hf
    go_enter Try.func4, Try.ntmps4
    go_wp2_with (first | (go_at_call 8; with_reducible refine (CS.out _).mono ?_; rintro e w' ⟨rfl, yy, rfl⟩) | (go_at_call 9; with_reducible refine (CR.out _).mono ?_; rintro e w' ⟨rfl, yy, rfl⟩))
    go_ret
    exact ⟨rfl, BelW.below7 _⟩
  have CR := Lib.hid (fun u : BelW V => right_c A c p p.length _ rfl hn true hb u (hr.bel u))
  obtain ⟨_, h16, _, hri⟩ := rightF_iff.1 hb
  have h16' : p.length ≤ 16 := by omega
  have HRI := Lib.hid hri
  have CF := Lib.hid (fun u : BelW V => from_any A c p p.length rfl (by omega) hf o k u.w (hr.bel u))
  have HR := Lib.hid hr
  clear hb hr hf hri h16
  go_enter Try.func4, Try.ntmps4
  go_upto_region 4 with (first | (go_at_call 8; with_reducible refine (CS.out _).mono ?_; rintro e w' ⟨rfl, yy, rfl⟩) | (go_at_call 9; with_reducible refine (CR.out _).mono ?_; rintro e w' ⟨rfl, yy, rfl⟩))
  go_wp2_with fail
  refine (CF.out _).mono ?_
  rintro e w1 ⟨g1, g2, T, rfl, hT, _, hI1, hI2, hB1⟩
  subst hT
  have HI1 := Lib.hid hI1
  have HI2 := Lib.hid hI2
  have HB := Lib.hid (show Below V.heap.size V w1 from below_next yy.2 hB1)
  clear hI1 hI2 hB1 CF CR CS
  go_upto_region 5 with fail
  refine wp_rebase _ (fun U hU z0 => ?_)
  subst hU
  have HRU := Lib.hid (HR.out.below (Nat.le_refl _) HB.out)
  go_wp2_with fail
  go_loopw [10] (fun s10 wr => Rng U p.length s10 wr) (fun i _ => p.length - (intOf i).toNat)
  case atStart => exact ⟨0, by omega, rfl, _, rfl⟩
  case round =>
    obtain ⟨i, hi, rfl, y, rfl⟩ := hrel
    by_cases hlt : i < p.length
    · have i3 : decide ((i : Int) < (p.length : Int)) = true := decide_eq_true (by omega)
      obtain ⟨ad, u, rfl, _, e1, e2⟩ := HRU.out.at (k := i) (by rw [ints_length]; exact hlt)
      rw [ints_at hlt] at e1
      cases e1
      have f1 := HI1.out.cell hlt
      have f2 := HI2.out.cell hlt
      rw [gl_at hlt] at f2
      have hw := from_want HRI.out (o := o) (k := k) hlt
      have hp0 := HRI.out.pos i hlt
      have hp1 := su_mono HRI.out.pos (k := i + 1) (by omega)
      have hp2 := HRI.out.sum
      have hp3 : su (gi p) (i + 1) = su (gi p) i + gi p i := rfl
      have hp4 := su_le (f := fun _ => 0) (g := gi p) (n := i) (fun j hj => HRI.out.pos j (by omega))
      rw [su_zero (fun _ _ => rfl)] at hp4
      rw [hw] at f1 f2
      obtain ⟨v, hv⟩ : ∃ v, gi p i = v := ⟨_, rfl⟩
      rw [hv] at e2 f1 f2 hp0 hp3
      have hvb : 0 ≤ v ∧ v ≤ 1125899906842624 := by omega
      have j1 : (0 : Int) ≤ (i : Int) := by omega
      have j2 : (i : Int) < (p.length : Int) := by omega
      clear hw hp0 hp1 hp2 hp3 hp4 hv
      by_cases hio : (i : Int) = o
      · subst hio
        by_cases hk : 0 < k
        · have t1 : decide (0 < k) = true := decide_eq_true hk
          rw [if_pos ⟨rfl, hk⟩] at f1 f2
          obtain ⟨m, hm⟩ : ∃ m, min k v = m := ⟨_, rfl⟩
          rw [hm] at f1 f2
          have w1' : IntKind.i64.wrap (v - m) = v - m := IntWalk.i64_in _ (by omega)
          have c1 := fun z : BelW U => BelW.cells e2 z
          have c2 := fun z : BelW U => BelW.cells f1 z
          have c3 := fun z : BelW U => BelW.cells f2 z
          clear e2 f1 f2 hvb hk
          go_upto_region 13 with fail
          refine wp_region_belx (by kernel_rfl) (by kernel_rfl) ?_
          repeat (go_big_quiet_step (fail))
          refine wpQuiet_nil ?_
          intro zz
          go_wp2_with fail
          go_roundw
          case rel => exact ⟨i + 1, by omega, by go_num, _, rfl⟩
          case measure => simp [intOf]; omega
        · have t1 : decide (0 < k) = false := decide_eq_false hk
          rw [if_neg (fun h => hk h.2)] at f1 f2
          rw [Int.sub_zero] at f2
          have w1' : IntKind.i64.wrap v = v := IntWalk.i64_in _ (by omega)
          have c1 := fun z : BelW U => BelW.cells e2 z
          have c2 := fun z : BelW U => BelW.cells f1 z
          have c3 := fun z : BelW U => BelW.cells f2 z
          clear e2 f1 f2 hvb hk
          go_upto_region 13 with fail
          refine wp_region_belx (by kernel_rfl) (by kernel_rfl) ?_
          repeat (go_big_quiet_step (fail))
          refine wpQuiet_nil ?_
          intro zz
          go_wp2_with fail
          go_roundw
          case rel => exact ⟨i + 1, by omega, by go_num, _, rfl⟩
          case measure => simp [intOf]; omega
      · have t1 : ((i : Int) == o) = false := beq_eq_false_iff_ne.2 hio
        rw [if_neg (fun h => hio h.1)] at f1 f2
        rw [Int.sub_zero] at f2
        have w1' : IntKind.i64.wrap v = v := IntWalk.i64_in _ (by omega)
        have c1 := fun z : BelW U => BelW.cells e2 z
        have c2 := fun z : BelW U => BelW.cells f1 z
        have c3 := fun z : BelW U => BelW.cells f2 z
        clear e2 f1 f2 hvb
        go_upto_region 13 with fail
        refine wp_region_belx (by kernel_rfl) (by kernel_rfl) ?_
        repeat (go_big_quiet_step (fail))
        refine wpQuiet_nil ?_
        intro zz
        go_wp2_with fail
        go_roundw
        case rel => exact ⟨i + 1, by omega, by go_num, _, rfl⟩
        case measure => simp [intOf]; omega
    · have i3 : decide ((i : Int) < (p.length : Int)) = false := decide_eq_false (by omega)
      have HE := Lib.hid (show Below V.heap.size V y.w from below_next HB.out y.2)
      go_wp2_with fail
      go_ret
      exact ⟨rfl, HE.out⟩

end Go.Proofs.Ytfmnlnmajephlaa
