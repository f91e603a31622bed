/- bourneref17: Plain, Right, Total, At. -/
import Derived.Test.YtfmnlnmajephlaaMrg17
import Derived.Test.YtfmnlnmajephlaaRefSum
import Derived.Test.YtfmnlnmajephlaaRefShW
import Derived.Test.YtfmnlnmajephlaaRefA
namespace Go.Proofs.Ytfmnlnmajephlaa
open Go.RowKit
set_option linter.unusedVariables false
set_option linter.unusedSimpArgs false

/-! Plain -/
def PlR (V : World) (p : List Int) (s3 : Value) (wr : World) : Prop := ∃ k : Nat, k ≤ p.length ∧ s3 = .int .i64 (k : Int) ∧ Hid (∀ j, j < k → 0 ≤ gi p j ∧ gi p j ≤ 1125899906842624) ∧ ∃ y : BelW V, wr = y.w
theorem plain_sum {p : List Int} (h : ∀ j, j < p.length → 0 ≤ gi p j ∧ gi p j ≤ 1125899906842624) (hn : p.length ≤ 1000) : sumR p = (p.sum, true) ∧ (p.sum ≤ 1125899906842624 ↔ RiP p) := by
  have a := su_le (f := fun _ => 0) (g := gi p) (n := p.length) (fun j hj => (h j hj).1)
  rw [su_zero (fun _ _ => rfl), ← sum_su] at a
  have b := su_le (f := gi p) (g := fun _ => 1125899906842624 * 1) (n := p.length) (fun j hj => by have := (h j hj).2; omega)
  have e1 : ∀ n : Nat, su (fun _ => (1 : Int)) n = (n : Int) := fun n => by
    induction n with
    | zero => rfl
    | succ n ih => show su _ n + 1 = _; rw [ih]; omega
  rw [su_mul, e1, ← sum_su] at b
  refine ⟨by unfold sumR; rw [if_pos (by omega)], fun hs => ⟨fun j hj => (h j hj).1, by rw [← sum_su]; exact hs⟩, fun hr => by have := hr.sum; rwa [← sum_su] at this⟩
set_option maxHeartbeats 4000000 in
set_option maxRecDepth 100000 in
theorem plain_any (A : Option Addr) (c : Nat) (p : List Int) (hn : p.length ≤ 1000) (hf : ∀ i, i < p.length → Fit (gi p i)) (w : World) (hr : Rd w A (ints p)) :
    Calls Try.prog 29 #[.slice A p.length c] w fun e w' => e = .returned (.bool (riB p)) ∧ Below w.heap.size w w' := by
  have HR := Lib.hid hr
  have HF := Lib.hid hf
  obtain ⟨b, hb⟩ : ∃ b, riB p = b := ⟨_, rfl⟩
  rw [hb]
  have HB := Lib.hid hb
  clear hr hf hb
  go_enter Try.func29, Try.ntmps29
  go_wp2_with fail
  go_loopw [3] (fun s3 wr => PlR w p s3 wr) (fun i _ => p.length - (intOf i).toNat)
  case atStart => exact ⟨0, by omega, rfl, Lib.hid (fun j hj => absurd hj (Nat.not_lt_zero _)), ⟨w, Below.refl _ _⟩, rfl⟩
  case round =>
    obtain ⟨k, hk, rfl, hall, y, rfl⟩ := hrel
    by_cases hlt : k < p.length
    · have i3 : decide ((k : Int) < (p.length : Int)) = true := decide_eq_true (by omega)
      obtain ⟨ad, u, rfl, hadb, e1, e2⟩ := (HR.out.bel y).at (k := k) (by rw [ints_length]; exact hlt)
      rw [ints_at hlt] at e1
      cases e1
      have j1 : (0 : Int) ≤ (k : Int) := by omega
      have j2 : (k : Int) < (p.length : Int) := by omega
      have HNO := Lib.hid (show ¬ (0 ≤ gi p k ∧ gi p k ≤ 1125899906842624) → b = false from fun h => by
        rw [← HB.out]
        cases hx : riB p with
        | false => rfl
        | true => exact absurd (ri_le (riB_iff.1 hx) hlt) h)
      have HYES := Lib.hid (show (0 ≤ gi p k ∧ gi p k ≤ 1125899906842624) → ∀ j, j < k + 1 → 0 ≤ gi p j ∧ gi p j ≤ 1125899906842624 from fun h j hj => by
        by_cases e : j = k
        · subst e; exact h
        · exact hall.out j (by omega))
      obtain ⟨v, hv⟩ : ∃ v, gi p k = v := ⟨_, rfl⟩
      rw [hv] at e2 HNO HYES
      have hB : Below w.heap.size w y.w := y.2
      clear hv
      by_cases v0 : v < 0
      · have v0' : decide (v < 0) = true := decide_eq_true v0
        have hbf := HNO.out (by omega)
        clear v0
        go_wp2_with fail
        go_ret
        exact ⟨by rw [hbf]; rfl, hB⟩
      have v0' : decide (v < 0) = false := decide_eq_false v0
      by_cases v1 : 1125899906842624 < v
      · have v1' : decide (1125899906842624 < v) = true := decide_eq_true v1
        have hbf := HNO.out (by omega)
        clear v1 v0
        go_wp2_with fail
        go_ret
        exact ⟨by rw [hbf]; rfl, hB⟩
      have v1' : decide (1125899906842624 < v) = false := decide_eq_false v1
      have HX := Lib.hid (HYES.out ⟨by omega, by omega⟩)
      clear v0 v1 HYES HNO
      go_wp2_with fail
      go_roundw
      case rel => exact ⟨k + 1, by omega, by go_num, HX, y, rfl⟩
      case measure => simp [intOf]; omega
    · have i3 : decide ((k : Int) < (p.length : Int)) = false := decide_eq_false (by omega)
      obtain rfl : k = p.length := by omega
      obtain ⟨s1, s2⟩ := plain_sum hall.out hn
      obtain ⟨S, hS⟩ : ∃ S, p.sum = S := ⟨_, rfl⟩
      rw [hS] at s1 s2
      have C := Lib.hid (fun u : BelW w => bel_of (x := u) (v := .tuple #[.int .i64 S, .bool true]) (by have h' := refsum_any A c p hn HF.out u.w (HR.out.bel u); rw [s1] at h'; exact h'))
      have hbe : b = decide (S ≤ 1125899906842624) := by rw [← HB.out, Bool.eq_iff_iff, riB_iff, decide_eq_true_iff]; exact s2.symm
      have HBE := Lib.hid hbe
      clear s1 s2 hS hall hbe
      by_cases q : S ≤ 1125899906842624
      · have q' : decide (S ≤ 1125899906842624) = true := decide_eq_true q
        have hbt := HBE.out.trans q'
        clear q
        go_wp2_with (first | (go_at_call 38; with_reducible refine (C.out _).mono ?_; rintro e w' ⟨rfl, yy, rfl⟩))
        go_ret
        exact ⟨by rw [hbt]; rfl, yy.2⟩
      · have q' : decide (S ≤ 1125899906842624) = false := decide_eq_false q
        have hbt := HBE.out.trans q'
        clear q
        go_wp2_with (first | (go_at_call 38; with_reducible refine (C.out _).mono ?_; rintro e w' ⟨rfl, yy, rfl⟩))
        go_ret
        exact ⟨by rw [hbt]; rfl, yy.2⟩

/-! Right -/
set_option maxHeartbeats 4000000 in
theorem refright_any (A : Option Addr) (c : Nat) (p : List Int) (o : Int) (hn : p.length ≤ 1000) (hf : ∀ i, i < p.length → Fit (gi p i)) (w : World) (hr : Rd w A (ints p)) :
    Calls Try.prog 18 #[.slice A p.length c, .int .i64 o] w fun e w' => e = .returned (.bool (rightF p o)) ∧ Below w.heap.size w w' := by
  refine rebase w (fun V hV x0 => ?_)
  subst hV
  obtain ⟨b, hb⟩ : ∃ b, riB p = b := ⟨_, rfl⟩
  have C := Lib.hid (fun u : BelW V => bel_of (x := u) (v := .bool b) (by have h' := plain_any A c p hn hf u.w (hr.bel u); rw [hb] at h'; exact h'))
  unfold rightF
  rw [hb]
  clear hr hb hf
  cases b
  case false =>
    rw [Bool.and_false]
    go_enter Try.func18, Try.ntmps18
    go_wp2_with (first | (go_at_call 29; with_reducible refine (C.out _).mono ?_; rintro e w' ⟨rfl, yy, rfl⟩))
    go_ret
    exact ⟨rfl, BelW.below7 _⟩
  case true =>
    by_cases h3 : (p.length : Int) = o
    · subst h3
      by_cases h2 : (p.length : Int) ≤ 16
      · have t2 : decide ((p.length : Int) ≤ 16) = true := decide_eq_true h2
        go_enter Try.func18, Try.ntmps18
        go_wp2_with (first | (go_at_call 29; with_reducible refine (C.out _).mono ?_; rintro e w' ⟨rfl, yy, rfl⟩))
        go_ret
        exact ⟨by simp [t2], BelW.below7 _⟩
      · have t2 : decide ((p.length : Int) ≤ 16) = false := decide_eq_false h2
        go_enter Try.func18, Try.ntmps18
        go_wp2_with (first | (go_at_call 29; with_reducible refine (C.out _).mono ?_; rintro e w' ⟨rfl, yy, rfl⟩))
        go_ret
        exact ⟨by simp [t2], BelW.below7 _⟩
    · have t3 : decide ((p.length : Int) = o) = false := decide_eq_false h3
      have t3' : ((p.length : Int) == o) = false := beq_eq_false_iff_ne.2 h3
      go_enter Try.func18, Try.ntmps18
      go_wp2_with (first | (go_at_call 29; with_reducible refine (C.out _).mono ?_; rintro e w' ⟨rfl, yy, rfl⟩))
      go_ret
      exact ⟨by simp [t3], BelW.below7 _⟩

/-! Total -/
set_option maxHeartbeats 4000000 in
set_option maxRecDepth 100000 in
theorem reftotal_any (A : Option Addr) (c : Nat) (p : List Int) (hn : p.length ≤ 9223372036854775807) (hf : ∀ i, i < p.length → Fit (gi p i)) (w : World) (hr : Rd w A (ints p)) :
    Calls Try.prog 19 #[.slice A p.length c] w fun e w' => e = .returned (.int .i64 (tot p p.length)) ∧ Below w.heap.size w w' := by
  have HR := Lib.hid hr
  have HF := Lib.hid hf
  clear hr hf
  go_enter Try.func19, Try.ntmps19
  go_wp2_with fail
  go_loopw [3, 4] (fun s3 s4 wr => ToR w p s3 s4 wr) (fun _ i _ => p.length - (intOf i).toNat)
  case atStart => exact ⟨0, by omega, rfl, rfl, ⟨w, Below.refl _ _⟩, rfl⟩
  case round =>
    obtain ⟨k, hk, rfl, rfl, y, rfl⟩ := hrel
    by_cases hlt : k < p.length
    · have i3 : decide ((k : Int) < (p.length : Int)) = true := decide_eq_true (by omega)
      obtain ⟨ad, u, rfl, hadb, e1, e2⟩ := (HR.out.bel y).at (k := k) (by rw [ints_length]; exact hlt)
      rw [ints_at hlt] at e1
      cases e1
      have j1 : (0 : Int) ≤ (k : Int) := by omega
      have j2 : (k : Int) < (p.length : Int) := by omega
      obtain ⟨T', hT'⟩ : ∃ v, tot p (k + 1) = v := ⟨_, rfl⟩
      have hT2 : Xa.add (tot p k) (gi p k) = T' := hT'
      have f1 := tot_fit p k
      have f2 := HF.out k hlt
      have HZ := Lib.hid hT'
      obtain ⟨v, hv⟩ : ∃ v, gi p k = v := ⟨_, rfl⟩
      obtain ⟨T, hT⟩ : ∃ v, tot p k = v := ⟨_, rfl⟩
      rw [hv] at e2 f2 hT2
      rw [hT] at f1 hT2 ⊢
      have C := Lib.hid (fun u : BelW w => bel_of_same (x := u) (v := .int .i64 T') (by have h' := refadd_any T v f1.1 f1.2 f2.1 f2.2 u.w; rw [hT2] at h'; exact h'))
      clear hv hT hT' hT2 f1 f2
      go_wp2_with (first | (go_at_call 33; with_reducible refine (C.out _).mono ?_; rintro e w' ⟨rfl, yy, rfl⟩))
      go_roundw
      case rel => exact ⟨k + 1, by omega, by go_num, by rw [HZ.out], _, rfl⟩
      case measure => simp [intOf]; omega
    · have i3 : decide ((k : Int) < (p.length : Int)) = false := decide_eq_false (by omega)
      obtain rfl : k = p.length := by omega
      have hB : Below w.heap.size w y.w := y.2
      go_wp2_with fail
      go_ret
      exact ⟨rfl, hB⟩

/-! At -/
def atI (p : List Int) (i : Int) : Int := if 0 ≤ i ∧ i < (p.length : Int) then gi p i.toNat else 0
theorem atI_nat (p : List Int) (k : Nat) : atI p (k : Int) = gi p k := by
  unfold atI
  by_cases h : k < p.length
  · rw [if_pos ⟨by omega, by omega⟩, Int.toNat_natCast]
  · rw [if_neg (by omega), gi_out (by omega)]
set_option maxHeartbeats 4000000 in
theorem at_any (A : Option Addr) (c : Nat) (p : List Int) (i : Int) (hn : p.length ≤ 9223372036854775807) (w : World) (hr : Rd w A (ints p)) :
    Calls Try.prog 32 #[.slice A p.length c, .int .i64 i] w fun e w' => e = .returned (.int .i64 (atI p i)) ∧ w = w' := by
  by_cases h1 : i < 0
  · have t1 : decide (i < 0) = true := decide_eq_true h1
    have e : atI p i = 0 := by unfold atI; rw [if_neg (by omega)]
    rw [e]
    clear hr
    go_enter Try.func32, Try.ntmps32
    go_wp2_with fail
    go_ret
    exact ⟨rfl, rfl⟩
  have t1 : decide (i < 0) = false := decide_eq_false h1
  by_cases h2 : (p.length : Int) ≤ i
  · have t2 : decide ((p.length : Int) ≤ i) = true := decide_eq_true h2
    have e : atI p i = 0 := by unfold atI; rw [if_neg (by omega)]
    rw [e]
    clear hr
    go_enter Try.func32, Try.ntmps32
    go_wp2_with fail
    go_ret
    exact ⟨rfl, rfl⟩
  obtain ⟨k, rfl⟩ := Int.eq_ofNat_of_zero_le (show 0 ≤ i by omega)
  have t2 : decide ((p.length : Int) ≤ (k : Int)) = false := decide_eq_false h2
  have hk : k < p.length := by omega
  obtain ⟨ad, u, rfl, _, e1, e2⟩ := hr.at (k := k) (by rw [ints_length]; exact hk)
  rw [ints_at hk] at e1
  cases e1
  have j1 : (0 : Int) ≤ (k : Int) := by omega
  have j2 : (k : Int) < (p.length : Int) := by omega
  rw [atI_nat]
  clear hr
  go_enter Try.func32, Try.ntmps32
  go_wp2_with fail
  go_ret
  exact ⟨rfl, rfl⟩

end Go.Proofs.Ytfmnlnmajephlaa
