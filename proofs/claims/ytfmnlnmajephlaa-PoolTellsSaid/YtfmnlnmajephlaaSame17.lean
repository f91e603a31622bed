/- bourneref17.Same. -/
import Derived.Test.YtfmnlnmajephlaaPoolF
namespace Go.Proofs.Ytfmnlnmajephlaa
open Go.RowKit
set_option linter.unusedVariables false
set_option linter.unusedSimpArgs false

def SaR (V : World) (a b : List Int) (s5 : Value) (wr : World) : Prop := ∃ k : Nat, k ≤ a.length ∧ s5 = .int .i64 (k : Int) ∧ (∀ i, i < k → gi a i = gi b i) ∧ ∃ y : BelW V, wr = y.w
set_option maxHeartbeats 4000000 in
set_option maxRecDepth 100000 in
theorem same_any (A B : Option Addr) (ca cb : Nat) (a b : List Int) (hna : a.length ≤ 9223372036854775807) (hnb : b.length ≤ 9223372036854775807) (w : World) (hra : Rd w A (ints a)) (hrb : Rd w B (ints b)) :
    Calls Try.prog 15 #[.slice A a.length ca, .slice B b.length cb] w fun e w' => e = .returned (.bool (decide (a = b))) ∧ Below w.heap.size w w' := by
  have HRA := Lib.hid hra
  have HRB := Lib.hid hrb
  clear hra hrb
  by_cases hl : a.length = b.length
  case neg =>
    have t0 : ((a.length : Int) != (b.length : Int)) = true := by simp; omega
    have hd : decide (a = b) = false := decide_eq_false (fun h => hl (by rw [h]))
    rw [hd]
    go_enter Try.func15, Try.ntmps15
    go_wp2_with fail
    go_ret
    exact ⟨rfl, Below.refl _ _⟩
  have t0 : ((a.length : Int) != (b.length : Int)) = false := by simp; omega
  obtain ⟨r, hr⟩ : ∃ r, decide (a = b) = r := ⟨_, rfl⟩
  rw [hr]
  have HRR := Lib.hid hr
  clear hr
  go_enter Try.func15, Try.ntmps15
  go_wp2_with fail
  go_loopw [5] (fun s5 wr => SaR w a b s5 wr) (fun i _ => a.length - (intOf i).toNat)
  case atStart => exact ⟨0, by omega, rfl, fun i hi => absurd hi (Nat.not_lt_zero _), ⟨w, Below.refl _ _⟩, rfl⟩
  case round =>
    obtain ⟨k, hk, rfl, hall, y, rfl⟩ := hrel
    have HA := Lib.hid hall
    clear hall
    by_cases hlt : k < a.length
    · have i3 : decide ((k : Int) < (a.length : Int)) = true := decide_eq_true (by omega)
      obtain ⟨ad, u, rfl, hadb, e1, e2⟩ := (HRA.out.bel y).at (k := k) (by rw [ints_length]; exact hlt)
      rw [ints_at hlt] at e1
      cases e1
      obtain ⟨bd, u, rfl, hbdb, f1, f2⟩ := (HRB.out.bel y).at (k := k) (by rw [ints_length]; omega)
      rw [ints_at (by omega)] at f1
      cases f1
      have HG := Lib.hid (show gi a k ≠ gi b k → r = false from fun h => by rw [← HRR.out]; exact decide_eq_false fun e => h (by rw [e]))
      have HK := Lib.hid (show gi a k = gi b k → ∀ i, i < k + 1 → gi a i = gi b i from fun h i hi => by
        by_cases e : i = k
        · subst e; exact h
        · exact HA.out i (by omega))
      obtain ⟨p, hp⟩ : ∃ p, gi a k = p := ⟨_, rfl⟩
      obtain ⟨q, hq⟩ : ∃ q, gi b k = q := ⟨_, rfl⟩
      rw [hp] at e2 HG HK
      rw [hq] at f2 HG HK
      have j1 : (0 : Int) ≤ (k : Int) := by omega
      have j2 : (k : Int) < (a.length : Int) := by omega
      have j3 : (k : Int) < (b.length : Int) := by omega
      have s1 := fun z : BelW y.w => BelW.cells e2 z
      have s2 := fun z : BelW y.w => BelW.cells f2 z
      clear hp hq e2 f2
      by_cases hpq : p = q
      · have t1 : (p != q) = false := by simp [hpq]
        have HK' := Lib.hid (HK.out hpq)
        go_upto_region 6 with fail
        refine wp_rebase _ (fun U hU x1 => ?_)
        have hBU : Below w.heap.size w U := by rw [hU]; exact y.2
        have s1' := fun z : BelW U => (show z.w.cell? (ad.add k) = some (.int .i64 p) by subst hU; exact s1 z)
        have s2' := fun z : BelW U => (show z.w.cell? (bd.add k) = some (.int .i64 q) by subst hU; exact s2 z)
        clear s1 s2 hU
        refine wp_region_belx (by kernel_rfl) (by kernel_rfl) ?_
        repeat (go_big_quiet_step (fail))
        refine wpQuiet_nil ?_
        intro zz
        go_wp2_with fail
        go_roundw
        case rel => exact ⟨k + 1, by omega, by go_num, HK'.out, ⟨zz.w, below_next hBU zz.2⟩, rfl⟩
        case measure => simp [intOf]; omega
      · have t1 : (p != q) = true := by simp [hpq]
        have hrf := HG.out hpq
        go_upto_region 6 with fail
        refine wp_rebase _ (fun U hU x1 => ?_)
        have hBU : Below w.heap.size w U := by rw [hU]; exact y.2
        have s1' := fun z : BelW U => (show z.w.cell? (ad.add k) = some (.int .i64 p) by subst hU; exact s1 z)
        have s2' := fun z : BelW U => (show z.w.cell? (bd.add k) = some (.int .i64 q) by subst hU; exact s2 z)
        clear s1 s2 hU
        refine wp_region_belx (by kernel_rfl) (by kernel_rfl) ?_
        repeat (go_big_quiet_step (fail))
        refine wpQuiet_nil ?_
        intro zz
        go_wp2_with fail
        go_ret
        exact ⟨by rw [hrf]; rfl, below_next hBU zz.2⟩
    · have i3 : decide ((k : Int) < (a.length : Int)) = false := decide_eq_false (by omega)
      have hrt : r = true := by rw [← HRR.out]; exact decide_eq_true (gi_ext hl fun i hi => HA.out i (by omega))
      have hB : Below w.heap.size w y.w := y.2
      go_wp2_with fail
      go_ret
      exact ⟨by rw [hrt]; rfl, hB⟩

end Go.Proofs.Ytfmnlnmajephlaa
