/- exact.Sum. -/
import Derived.Test.YtemdnfodpijncaaShare
import Derived.Laws.Externs
namespace Go.Proofs.Ytemdnfodpijncaa
open Go.RowKit Go.Shelf
set_option linter.unusedVariables false
set_option linter.unusedSimpArgs false

theorem add64_any (x y c : Int) (hx : 0 ≤ x) (hy : 0 ≤ y) (hc0 : 0 ≤ c) (hc : c ≤ 1) (w : World) : (callFunc 29 #[.int .u64 x, .int .u64 y, .int .u64 c]).run Try.prog w =
    .ok (.value (.tuple #[.int .u64 ((x + y + c) % 18446744073709551616), .int .u64 ((x + y + c) / 18446744073709551616)])) w := by
  rw [run_callFunc_extern Try.func29 (by kernel_rfl) (by kernel_rfl) (by kernel_rfl) (e := add64Entry) (by kernel_rfl), run_add64 x y c hx hy hc0 hc]
  rfl
theorem add64_0 (x y : Int) (hx : 0 ≤ x) (hy : 0 ≤ y) (w : World) : (callFunc 29 #[.int .u64 x, .int .u64 y, .int .u64 0]).run Try.prog w =
    .ok (.value (.tuple #[.int .u64 ((x + y) % 18446744073709551616), .int .u64 ((x + y) / 18446744073709551616)])) w := by
  simpa using add64_any x y 0 hx hy (Int.le_refl 0) (by decide) w

def sumF (l : List Int) : Int × Bool := if -9223372036854775808 ≤ l.sum ∧ l.sum ≤ 9223372036854775807 then (l.sum, true) else (0, false)
/-- the two halves of a sum -/
def Two (S H L : Int) : Prop := 0 ≤ H ∧ H < 18446744073709551616 ∧ 0 ≤ L ∧ L < 18446744073709551616 ∧ ∃ m : Int, S = (H + m * 18446744073709551616) * 18446744073709551616 + L
theorem Two.step {S H L n un us : Int} (h : Two S H L) (hn : (0 ≤ n ∧ un = n ∧ us = 0) ∨ (n < 0 ∧ un = n + 18446744073709551616 ∧ us = 18446744073709551615)) (hb : -9223372036854775808 ≤ n ∧ n ≤ 9223372036854775807) :
    Two (S + n) ((H + us + (L + un) / 18446744073709551616) % 18446744073709551616) ((L + un) % 18446744073709551616) := by
  obtain ⟨h1, h2, h3, h4, m, hm⟩ := h
  refine ⟨by omega, by omega, by omega, by omega, ?_⟩
  rcases hn with ⟨a, b, c⟩ | ⟨a, b, c⟩
  · exact ⟨m + (H + us + (L + un) / 18446744073709551616) / 18446744073709551616, by omega⟩
  · exact ⟨m + (H + us + (L + un) / 18446744073709551616) / 18446744073709551616 - 1, by omega⟩
theorem Two.ends {S H L : Int} (h : Two S H L) (hS : -85070591730234615865843651857942052864 ≤ S ∧ S ≤ 85070591730234615865843651857942052864) :
    (L ≤ 9223372036854775807 → (H = 0 → S = L) ∧ (H ≠ 0 → ¬ (-9223372036854775808 ≤ S ∧ S ≤ 9223372036854775807))) ∧
    (9223372036854775807 < L → (H = 18446744073709551615 → S = L - 18446744073709551616) ∧ (H ≠ 18446744073709551615 → ¬ (-9223372036854775808 ≤ S ∧ S ≤ 9223372036854775807))) := by
  obtain ⟨h1, h2, h3, h4, m, hm⟩ := h
  refine ⟨fun a => ⟨fun b => ?_, fun b c => ?_⟩, fun a => ⟨fun b => ?_, fun b c => ?_⟩⟩ <;> omega
theorem su_fit {l : List Int} : ∀ {k : Nat}, (∀ i, i < k → Fit (gi l i)) → -9223372036854775808 * (k : Int) ≤ su (gi l) k ∧ su (gi l) k ≤ 9223372036854775808 * (k : Int)
  | 0, _ => by show -9223372036854775808 * (0 : Int) ≤ 0 ∧ (0 : Int) ≤ 9223372036854775808 * (0 : Int); omega
  | k + 1, h => by
    have h1 := su_fit (k := k) (fun i hi => h i (by omega))
    have h2 := h k (by omega)
    unfold Fit at h2
    show -9223372036854775808 * ((k + 1 : Nat) : Int) ≤ su (gi l) k + gi l k ∧ su (gi l) k + gi l k ≤ 9223372036854775808 * ((k + 1 : Nat) : Int)
    omega

def SmR (V : World) (l : List Int) (s4 s5 s11 : Value) (wr : World) : Prop := ∃ (k : Nat) (H L : Int), k ≤ l.length ∧ s11 = .int .i64 (k : Int) ∧ s4 = .int .u64 H ∧ s5 = .int .u64 L ∧ Hid (Two (su (gi l) k) H L) ∧ ∃ y : BelW V, wr = y.w

set_option maxHeartbeats 4000000 in
set_option maxRecDepth 100000 in
theorem sum_any (A : Option Addr) (c : Nat) (l : List Int) (hn : l.length ≤ 9223372036854775807) (hf : ∀ i, i < l.length → Fit (gi l i)) (w : World) (hr : Rd w A (ints l)) :
    Calls Try.prog 14 #[.slice A l.length c] w fun e w' => e = .returned (.tuple #[.int .i64 (sumF l).1, .bool (sumF l).2]) ∧ Below w.heap.size w w' := by
  have HR := Lib.hid hr
  have HF := Lib.hid hf
  clear hr hf
  go_enter Try.func14, Try.ntmps14
  go_wp2_with fail
  go_loopw [4, 5, 11] (fun s4 s5 s11 wr => SmR w l s4 s5 s11 wr) (fun _ _ i _ => l.length - (intOf i).toNat)
  case atStart => exact ⟨0, 0, 0, by omega, rfl, rfl, rfl, Lib.hid ⟨by omega, by omega, by omega, by omega, 0, by show (0 : Int) = _; omega⟩, ⟨w, Below.refl _ _⟩, rfl⟩
  case round =>
    obtain ⟨k, H, L, hk, rfl, rfl, rfl, hT, y, rfl⟩ := hrel
    have hb := hT.out
    obtain ⟨b1, b2, b3, b4, -⟩ := hb
    by_cases hlt : k < l.length
    · have i3 : decide ((k : Int) < (l.length : Int)) = true := decide_eq_true (by omega)
      obtain ⟨ad, u, rfl, hadb, e1, e2⟩ := (HR.out.bel y).at (k := k) (by rw [ints_length]; exact hlt)
      rw [ints_at hlt] at e1
      cases e1
      have j1 : (0 : Int) ≤ (k : Int) := by omega
      have j2 : (k : Int) < (l.length : Int) := by omega
      have hfit := HF.out k hlt
      unfold Fit at hfit
      obtain ⟨un, us, hus, eun, eus, edv⟩ : ∃ un us : Int, ((0 ≤ gi l k ∧ un = gi l k ∧ us = 0) ∨ (gi l k < 0 ∧ un = gi l k + 18446744073709551616 ∧ us = 18446744073709551615)) ∧ IntKind.u64.wrap (gi l k) = un ∧ IntKind.u64.wrap (gi l k / 9223372036854775808) = us ∧ 0 ≤ us := by
        have a1 : IntKind.u64.wrap (gi l k) = gi l k % 18446744073709551616 := rfl
        have a2 : IntKind.u64.wrap (gi l k / 9223372036854775808) = (gi l k / 9223372036854775808) % 18446744073709551616 := rfl
        by_cases v0 : gi l k < 0
        · exact ⟨_, _, .inr ⟨v0, rfl, rfl⟩, by omega, by omega, by omega⟩
        · exact ⟨_, _, .inl ⟨by omega, rfl, rfl⟩, by omega, by omega, by omega⟩
      have HX := Lib.hid (hT.out.step hus hfit)
      obtain ⟨v, hv⟩ : ∃ v, gi l k = v := ⟨_, rfl⟩
      rw [hv] at e2 hfit eun eus HX hus
      have HSU := Lib.hid (show su (gi l) (k + 1) = su (gi l) k + v by show su (gi l) k + gi l k = _; rw [hv])
      have c1 : 0 ≤ un := by omega
      have c4 : un < 18446744073709551616 := by omega
      have c2 : 0 ≤ (L + un) / 18446744073709551616 := by omega
      have c3 : (L + un) / 18446744073709551616 ≤ 1 := by omega
      clear hv hus hfit
      go_wp2_with (first | simp only [add64_0 L un b3 c1] | simp only [add64_any H us _ b1 edv c2 c3])
      go_roundw
      case rel => exact ⟨k + 1, _, _, by omega, by go_num, rfl, rfl, by rw [HSU.out]; exact HX, y, rfl⟩
      case measure => simp [intOf]; omega
    · have i3 : decide ((k : Int) < (l.length : Int)) = false := decide_eq_false (by omega)
      obtain rfl : k = l.length := by omega
      have hs := su_fit HF.out
      have he := hT.out.ends (by omega)
      rw [← sum_su] at he
      have hB : Below w.heap.size w y.w := y.2
      clear hs
      by_cases hL : L ≤ 9223372036854775807
      · obtain ⟨p1, p2⟩ := he.1 hL
        have a1 : IntKind.i64.wrap L = L := IntWalk.i64_in _ (by omega)
        have a2 : L / 9223372036854775808 = 0 := by omega
        clear he
        by_cases hH : H = 0
        · have a3 : (H != 0) = false := by simp [hH]
          have a4 : ¬ (H = 0 → False) := by simp [hH]
          have HE := Lib.hid (show sumF l = (L, true) by unfold sumF; rw [p1 hH, if_pos (by omega)])
          clear p1 p2
          subst hH
          go_wp2_with fail
          rw [HE.out]
          go_ret2
          exact ⟨rfl, hB⟩
        · have a3 : (H != 0) = true := by simp [hH]
          have HE := Lib.hid (show sumF l = (0, false) by unfold sumF; rw [if_neg (p2 hH)])
          clear p1 p2
          go_wp2_with fail
          rw [HE.out]
          go_ret2
          exact ⟨rfl, hB⟩
      · obtain ⟨p1, p2⟩ := he.2 (by omega)
        have a1 : IntKind.i64.wrap L = L - 18446744073709551616 := by rw [IntKind.wrap_i64]; omega
        have a2 : (L - 18446744073709551616) / 9223372036854775808 = -1 := by omega
        have a5 : IntKind.u64.wrap (-1) = 18446744073709551615 := by decide
        clear he
        by_cases hH : H = 18446744073709551615
        · have HE := Lib.hid (show sumF l = (L - 18446744073709551616, true) by unfold sumF; rw [p1 hH, if_pos (by omega)])
          clear p1 p2
          subst hH
          go_wp2_with fail
          rw [HE.out]
          go_ret2
          exact ⟨rfl, hB⟩
        · have a3 : (H != 18446744073709551615) = true := by simp [hH]
          have HE := Lib.hid (show sumF l = (0, false) by unfold sumF; rw [if_neg (p2 hH)])
          clear p1 p2
          go_wp2_with fail
          rw [HE.out]
          go_ret2
          exact ⟨rfl, hB⟩

end Go.Proofs.Ytemdnfodpijncaa
