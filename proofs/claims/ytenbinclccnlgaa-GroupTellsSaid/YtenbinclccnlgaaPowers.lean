/- GroupPowers and GroupOrder: powers of members of the group follow the laws of exponents modulo Q; powers of a generator are equal exactly for exponents of one residue. No condition but that the arguments are ints. -/
import Derived.Test.YtenbinclccnlgaaField
namespace Go.Proofs.Ytenbinclccnlgaa
open Go.RowKit
open FieldLaw

theorem rs_one_mul (y : Int) : Grp.rs (Grp.gMul y 1) = Grp.rs y := by rw [Grp.gMul_one, Grp.rs_of_lt (Grp.rs_lt y)]
theorem in_res {y : Int} (h : Grp.rs y ≠ 0) : Grp.gIn (Grp.gMul y 1) = decide (Grp.mem (Grp.rs y)) := by rw [Grp.gMul_one, Grp.gIn_rs h]
theorem mulQ_bd (a b : Int) : 0 ≤ Grp.gMulQ a b ∧ Grp.gMulQ a b < 1152921504606845789 := by
  unfold Grp.gMulQ
  rw [Qc]
  exact ⟨Int.emod_nonneg _ (by omega), Int.emod_lt_of_pos _ (by omega)⟩
theorem subQ_bd (a b : Int) : 0 ≤ Grp.gSubQ a b ∧ Grp.gSubQ a b < 1152921504606845789 := by
  unfold Grp.gSubQ
  rw [Qc]
  exact ⟨Int.emod_nonneg _ (by omega), Int.emod_lt_of_pos _ (by omega)⟩
theorem exp_add_zero {y d : Int} (h : Grp.mem (Grp.rs y)) : Grp.gExp y d = Grp.gExp y (Grp.gAddQ d 0) := by
  refine Grp.exp_eq_of h ?_
  unfold Grp.gAddQ
  rw [Int.add_zero, Grp.ex_res, Int.emod_emod, Grp.ex_mod]
theorem le_of_bd {x : Int} (h : 0 ≤ x ∧ x < 1152921504606845789) : x ≤ 9223372036854775807 := by omega

set_option maxHeartbeats 1000000 in
set_option maxRecDepth 100000 in
theorem powers_walk (y d e : Int) (hd : d ≤ 9223372036854775807) (he : e ≤ 9223372036854775807) (w : World) : Calls Try.prog 5 #[.int .i64 y, .int .i64 d, .int .i64 e] w fun e w' => e = .returned (.bool true) ∧ ∃ n, w' = w.drewN n := by
  have f1 := nf (Grp.gExp_two (y := y))
  have f2 := nf (Grp.gExp_one (y := y))
  have f3 := nf (Grp.gExp_zero (y := y))
  by_cases hm : Grp.mem (Grp.rs y)
  · have h0 := Grp.mem_ne hm
    have x1 : Grp.gIn (Grp.gMul y 1) = true := by rw [in_res h0]; exact decide_eq_true hm
    have x2 := bt (Grp.powers_one (d := d) (e := e) hm)
    have x3 := bt (Grp.powers_two (d := d) (e := e) hm)
    have x4 := Grp.powers_inv (d := d) hm
    have x5 := bt (exp_add_zero (d := d) hm)
    have z1 := le_of_bd (addQ_bd d e)
    have z2 := le_of_bd (mulQ_bd d e)
    have z3 := le_of_bd (subQ_bd 0 d)
    have z4 := le_of_bd (addQ_bd d 0)
    clear hm h0
    go_enter Try.func5, Try.ntmps5
    go_wp2_with (first | (go_at_call 8; refine (small_any _).mono ?_; rintro e w' ⟨rfl, n, rfl⟩) | (go_at_call 9; refine (inv_any _ _).mono ?_; rintro e w' ⟨rfl, n, rfl⟩) | (go_at_call 13; refine (exp_any _ _ (by first | omega | assumption) _).mono ?_; rintro e w' ⟨rfl, n, rfl⟩) | (go_at_call 15; refine (in_any _ _).mono ?_; rintro e w' ⟨rfl, n, rfl⟩) | (go_at_call 11; refine (mul_any _ _ _).mono ?_; rintro e w' ⟨rfl, n, rfl⟩) | (go_at_call 17; refine (addQ_any _ _ _).mono ?_; rintro e w' ⟨rfl, rfl⟩) | (go_at_call 19; refine (subQ_any _ _ _).mono ?_; rintro e w' ⟨rfl, rfl⟩) | (go_at_call 21; refine (mulQ_any _ _ _).mono ?_; rintro e w' ⟨rfl, n, rfl⟩))
    go_ret
    exact ⟨rfl, _, rfl⟩
  · have x1 : Grp.gIn (Grp.gMul y 1) = false := by
      by_cases h0 : Grp.rs y = 0
      · rw [mul_zero_left h0]; exact Ex.n0
      · rw [in_res h0]; exact decide_eq_false hm
    clear hm
    go_enter Try.func5, Try.ntmps5
    go_wp2_with (first | (go_at_call 8; refine (small_any _).mono ?_; rintro e w' ⟨rfl, n, rfl⟩) | (go_at_call 9; refine (inv_any _ _).mono ?_; rintro e w' ⟨rfl, n, rfl⟩) | (go_at_call 13; refine (exp_any _ _ (by first | omega | assumption) _).mono ?_; rintro e w' ⟨rfl, n, rfl⟩) | (go_at_call 15; refine (in_any _ _).mono ?_; rintro e w' ⟨rfl, n, rfl⟩) | (go_at_call 11; refine (mul_any _ _ _).mono ?_; rintro e w' ⟨rfl, n, rfl⟩) | (go_at_call 17; refine (addQ_any _ _ _).mono ?_; rintro e w' ⟨rfl, rfl⟩) | (go_at_call 19; refine (subQ_any _ _ _).mono ?_; rintro e w' ⟨rfl, rfl⟩) | (go_at_call 21; refine (mulQ_any _ _ _).mono ?_; rintro e w' ⟨rfl, n, rfl⟩))
    go_ret
    exact ⟨rfl, _, rfl⟩

theorem mem4 : Grp.mem 4 := by
  unfold Grp.mem
  rw [← Grp.pm_eq Grp.Pn 4 64 Grp.Qn (by decide +kernel)]
  decide +kernel
theorem mem_sq {x : Nat} (h0 : x ≠ 0) (h : x < Grp.Pn) : Grp.mem (x * x % Grp.Pn) := by
  unfold Grp.mem
  rw [Grp.pow_mulmod, ← Nat.mul_mod, ← Nat.pow_add, ← Nat.two_mul, Grp.full h0 h]

/-- powers of a member other than 1 are equal exactly for equal residues of the exponents -/
theorem exp_inj {y d e : Int} (h : Grp.mem (Grp.rs y)) (h1 : Grp.rs y ≠ 1) : Grp.gExp y d = Grp.gExp y e ↔ Grp.gSubQ d e = 0 := by
  have hsub : Grp.gSubQ d e = ((Grp.ex d : Int) - (Grp.ex e : Int)) % (Grp.Qn : Int) := by
    unfold Grp.gSubQ
    rw [Int.sub_emod, Int.sub_emod (Grp.ex d : Int), Grp.ex_mod, Grp.ex_mod]
  have hpp : Grp.rs y % Grp.Pn ≠ 1 := by rw [Nat.mod_eq_of_lt (Grp.rs_lt y)]; exact h1
  have aux : ∀ m n : Nat, m ≤ n → Grp.rs y ^ m % Grp.Pn = Grp.rs y ^ n % Grp.Pn → Grp.Qn ∣ n - m := by
    intro m n hmn hx
    refine Grp.ord h hpp ?_
    have hn : n = m + (n - m) := by omega
    rw [hn, Nat.pow_add] at hx
    have hc := Grp.cancel (x := Grp.rs y ^ m % Grp.Pn) (a := 1) (b := Grp.rs y ^ (n - m) % Grp.Pn) (Grp.pow_ne (Grp.mem_ne h) (Grp.rs_lt y) m) (Nat.mod_lt _ (by decide +kernel))
      (by rw [Nat.mul_one, Nat.mod_mod, ← Nat.mul_mod]; exact hx) (by decide +kernel) (Nat.mod_lt _ (by decide +kernel))
    exact hc.symm
  have hdv : ∀ m n : Nat, Grp.Qn ∣ n - m → m ≤ n → ((n : Int) - (m : Int)) % (Grp.Qn : Int) = 0 := by
    intro m n hx hmn
    obtain ⟨c, hc⟩ := hx
    have : (n : Int) - (m : Int) = (Grp.Qn : Int) * (c : Int) := by
      rw [← Int.natCast_mul, ← hc]
      omega
    rw [this, Int.mul_emod_right]
  constructor
  · intro hx
    have hx' : Grp.rs y ^ Grp.ex d % Grp.Pn = Grp.rs y ^ Grp.ex e % Grp.Pn := by
      unfold Grp.gExp at hx
      omega
    rw [hsub]
    rcases Nat.le_total (Grp.ex d) (Grp.ex e) with l | l
    · have := hdv _ _ (aux _ _ l hx') l
      have h2 := Int.emod_eq_zero_of_dvd (Int.dvd_neg.2 (Int.dvd_of_emod_eq_zero this))
      rwa [Int.neg_sub] at h2
    · exact hdv _ _ (aux _ _ l hx'.symm) l
  · intro hx
    refine Grp.exp_eq_of h ?_
    rw [hsub] at hx
    exact Int.emod_eq_emod_iff_emod_sub_eq_zero.2 hx

theorem rs4 : Grp.rs 4 = 4 := by decide +kernel
theorem add_sub_zero (d : Int) : Grp.gAddQ d 0 = Grp.gSubQ d 0 := by
  unfold Grp.gAddQ Grp.gSubQ
  rw [Int.add_zero, Int.sub_zero]

set_option maxHeartbeats 1000000 in
set_option maxRecDepth 100000 in
theorem order_walk (d e y : Int) (hd : d ≤ 9223372036854775807) (he : e ≤ 9223372036854775807) (w : World) : Calls Try.prog 6 #[.int .i64 d, .int .i64 e, .int .i64 y] w fun e w' => e = .returned (.bool true) ∧ ∃ n, w' = w.drewN n := by
  have k := exp_inj (y := 4) (d := d) (e := e) (rs4 ▸ mem4) (by decide +kernel)
  obtain ⟨s, x1, x2⟩ : ∃ s : Bool, (Grp.gSubQ d e == 0) = s ∧ (Grp.gExp 4 d == Grp.gExp 4 e) = s := by
    by_cases h : Grp.gSubQ d e = 0
    · exact ⟨true, bt h, bt (k.2 h)⟩
    · exact ⟨false, bf h, bf (fun x => h (k.1 x))⟩
  clear k
  by_cases h0 : Grp.gMul y y = 0
  · have x3 := bt h0
    clear h0
    cases s
    all_goals
      go_enter Try.func6, Try.ntmps6
      go_wp2_with (first | (go_at_call 8; refine (small_any _).mono ?_; rintro e w' ⟨rfl, n, rfl⟩) | (go_at_call 9; refine (inv_any _ _).mono ?_; rintro e w' ⟨rfl, n, rfl⟩) | (go_at_call 13; refine (exp_any _ _ (by first | omega | assumption) _).mono ?_; rintro e w' ⟨rfl, n, rfl⟩) | (go_at_call 15; refine (in_any _ _).mono ?_; rintro e w' ⟨rfl, n, rfl⟩) | (go_at_call 11; refine (mul_any _ _ _).mono ?_; rintro e w' ⟨rfl, n, rfl⟩) | (go_at_call 17; refine (addQ_any _ _ _).mono ?_; rintro e w' ⟨rfl, rfl⟩) | (go_at_call 19; refine (subQ_any _ _ _).mono ?_; rintro e w' ⟨rfl, rfl⟩) | (go_at_call 21; refine (mulQ_any _ _ _).mono ?_; rintro e w' ⟨rfl, n, rfl⟩))
      go_ret
      exact ⟨rfl, _, rfl⟩
  · by_cases h1 : Grp.gMul y y = 1
    · have x3 := bf h0
      have x4 := bt h1
      clear h0 h1
      cases s
      all_goals
        go_enter Try.func6, Try.ntmps6
        go_wp2_with (first | (go_at_call 8; refine (small_any _).mono ?_; rintro e w' ⟨rfl, n, rfl⟩) | (go_at_call 9; refine (inv_any _ _).mono ?_; rintro e w' ⟨rfl, n, rfl⟩) | (go_at_call 13; refine (exp_any _ _ (by first | omega | assumption) _).mono ?_; rintro e w' ⟨rfl, n, rfl⟩) | (go_at_call 15; refine (in_any _ _).mono ?_; rintro e w' ⟨rfl, n, rfl⟩) | (go_at_call 11; refine (mul_any _ _ _).mono ?_; rintro e w' ⟨rfl, n, rfl⟩) | (go_at_call 17; refine (addQ_any _ _ _).mono ?_; rintro e w' ⟨rfl, rfl⟩) | (go_at_call 19; refine (subQ_any _ _ _).mono ?_; rintro e w' ⟨rfl, rfl⟩) | (go_at_call 21; refine (mulQ_any _ _ _).mono ?_; rintro e w' ⟨rfl, n, rfl⟩))
        go_ret
        exact ⟨rfl, _, rfl⟩
    · have x3 := bf h0
      have x4 := bf h1
      have hy : Grp.rs y ≠ 0 := fun h => h0 (mul_zero_left h y)
      have hr : Grp.rs (Grp.gMul y y) ≠ 1 := fun h => h1 (by rw [Grp.gMul_nat, ← Grp.rs_gMul, h]; rfl)
      have k := exp_inj (y := Grp.gMul y y) (d := d) (e := 0) (by rw [Grp.rs_gMul]; exact mem_sq hy (Grp.rs_lt y)) hr
      rw [Grp.gExp_zero, ← add_sub_zero] at k
      obtain ⟨r, x5, x6⟩ : ∃ r : Bool, (Grp.gAddQ d 0 == 0) = r ∧ (Grp.gExp (Grp.gMul y y) d == 1) = r := by
        by_cases h : Grp.gAddQ d 0 = 0
        · exact ⟨true, bt h, bt (k.2 h)⟩
        · exact ⟨false, bf h, bf (fun x => h (k.1 x))⟩
      clear k h0 h1 hy hr
      cases s
      all_goals
        cases r
        all_goals
          go_enter Try.func6, Try.ntmps6
          go_wp2_with (first | (go_at_call 8; refine (small_any _).mono ?_; rintro e w' ⟨rfl, n, rfl⟩) | (go_at_call 9; refine (inv_any _ _).mono ?_; rintro e w' ⟨rfl, n, rfl⟩) | (go_at_call 13; refine (exp_any _ _ (by first | omega | assumption) _).mono ?_; rintro e w' ⟨rfl, n, rfl⟩) | (go_at_call 15; refine (in_any _ _).mono ?_; rintro e w' ⟨rfl, n, rfl⟩) | (go_at_call 11; refine (mul_any _ _ _).mono ?_; rintro e w' ⟨rfl, n, rfl⟩) | (go_at_call 17; refine (addQ_any _ _ _).mono ?_; rintro e w' ⟨rfl, rfl⟩) | (go_at_call 19; refine (subQ_any _ _ _).mono ?_; rintro e w' ⟨rfl, rfl⟩) | (go_at_call 21; refine (mulQ_any _ _ _).mono ?_; rintro e w' ⟨rfl, n, rfl⟩))
          go_ret
          exact ⟨rfl, _, rfl⟩

theorem gIn_val {v : Int} (h0 : 0 < v) (h1 : v < (Grp.Pn : Int)) : Grp.gIn v = decide (Grp.mem (Grp.rs v)) := by
  have e : Grp.rs v = v.toNat := by
    unfold Grp.rs
    rw [Int.emod_eq_of_lt (by omega) h1]
  have h := Grp.gIn_rs (a := v) (by rw [e]; omega)
  rw [e, Int.toNat_of_nonneg (by omega)] at h
  rw [h, e]
theorem gIn_out {v : Int} (h : ¬ (0 < v ∧ v < (Grp.Pn : Int))) : Grp.gIn v = false := by
  rcases hb : Grp.gIn v with _ | _
  · rfl
  · have := Grp.gIn_iff.1 hb
    exact absurd ⟨by omega, this.2.1⟩ h

theorem dm (x : Nat) : decide (Grp.mem x) = (x ^ Grp.Qn % Grp.Pn == 1) := by
  by_cases h : Grp.mem x
  · rw [decide_eq_true h]; exact (beq_iff_eq.2 h).symm
  · rw [decide_eq_false h]; exact (beq_eq_false_iff_ne.2 h).symm
theorem mem_one : Grp.mem 1 := by
  unfold Grp.mem
  rw [Nat.one_pow]
  decide +kernel
theorem mem_mul {x y : Nat} (hx : x ≠ 0) (hy : y ≠ 0) (hxp : x < Grp.Pn) (hyp : y < Grp.Pn) : decide (Grp.mem (x * y % Grp.Pn)) = (decide (Grp.mem x) == decide (Grp.mem y)) := by
  rw [dm, dm, dm, Grp.pow_mulmod x y Grp.Qn]
  rcases Grp.half hx hxp with h | h <;> rcases Grp.half hy hyp with h' | h' <;> rw [h, h'] <;> decide +kernel
theorem mem_neg {x : Nat} (hx : x ≠ 0) (hxp : x < Grp.Pn) : decide (Grp.mem (Grp.Pn - x)) = !decide (Grp.mem x) := by
  rw [dm, dm, Grp.pow_neg hx hxp]
  rcases Grp.half hx hxp with h | h <;> rw [h] <;> decide +kernel
theorem mem_pw {x : Nat} (h : Grp.mem x) (n : Nat) : Grp.mem (x ^ n % Grp.Pn) := by
  unfold Grp.mem
  rw [Grp.powpow, Nat.mul_comm, ← Grp.powpow, h, Nat.one_pow]
  decide +kernel

set_option maxHeartbeats 2000000 in
set_option maxRecDepth 100000 in
theorem members_walk (a b e : Int) (he : e ≤ 9223372036854775807) (w : World) : Calls Try.prog 4 #[.int .i64 a, .int .i64 b, .int .i64 e] w fun e w' => e = .returned (.bool true) ∧ ∃ n, w' = w.drewN n := by
  have z0 := Ex.n0
  by_cases ha : Grp.rs a = 0
  · have x1 := bt (mul_zero_left ha 1)
    clear ha
    go_enter Try.func4, Try.ntmps4
    go_wp2_with (first | (go_at_call 8; refine (small_any _).mono ?_; rintro e w' ⟨rfl, n, rfl⟩) | (go_at_call 9; refine (inv_any _ _).mono ?_; rintro e w' ⟨rfl, n, rfl⟩) | (go_at_call 13; refine (exp_any _ _ (by first | omega | assumption) _).mono ?_; rintro e w' ⟨rfl, n, rfl⟩) | (go_at_call 15; refine (in_any _ _).mono ?_; rintro e w' ⟨rfl, n, rfl⟩) | (go_at_call 11; refine (mul_any _ _ _).mono ?_; rintro e w' ⟨rfl, n, rfl⟩) | (go_at_call 17; refine (addQ_any _ _ _).mono ?_; rintro e w' ⟨rfl, rfl⟩) | (go_at_call 19; refine (subQ_any _ _ _).mono ?_; rintro e w' ⟨rfl, rfl⟩) | (go_at_call 21; refine (mulQ_any _ _ _).mono ?_; rintro e w' ⟨rfl, n, rfl⟩))
    go_ret
    exact ⟨rfl, _, rfl⟩
  by_cases hb : Grp.rs b = 0
  · have x1 := bf (mul_ne_zero (b := 1) ha (by decide +kernel))
    have x2 := bt (mul_zero_left hb 1)
    clear ha hb
    go_enter Try.func4, Try.ntmps4
    go_wp2_with (first | (go_at_call 8; refine (small_any _).mono ?_; rintro e w' ⟨rfl, n, rfl⟩) | (go_at_call 9; refine (inv_any _ _).mono ?_; rintro e w' ⟨rfl, n, rfl⟩) | (go_at_call 13; refine (exp_any _ _ (by first | omega | assumption) _).mono ?_; rintro e w' ⟨rfl, n, rfl⟩) | (go_at_call 15; refine (in_any _ _).mono ?_; rintro e w' ⟨rfl, n, rfl⟩) | (go_at_call 11; refine (mul_any _ _ _).mono ?_; rintro e w' ⟨rfl, n, rfl⟩) | (go_at_call 17; refine (addQ_any _ _ _).mono ?_; rintro e w' ⟨rfl, rfl⟩) | (go_at_call 19; refine (subQ_any _ _ _).mono ?_; rintro e w' ⟨rfl, rfl⟩) | (go_at_call 21; refine (mulQ_any _ _ _).mono ?_; rintro e w' ⟨rfl, n, rfl⟩))
    go_ret
    exact ⟨rfl, _, rfl⟩
  have x1 := bf (mul_ne_zero (b := 1) ha (by decide +kernel))
  have x2 := bf (mul_ne_zero (b := 1) hb (by decide +kernel))
  have ra := rs_one_mul a
  have rb := rs_one_mul b
  have la := Grp.rs_lt a
  have lb := Grp.rs_lt b
  have ba := mul_bd a 1
  have ga := Grp.gMul_one a
  have i1 := Grp.gInv_some (a := Grp.gMul a 1) (by rw [ra]; exact ha)
  have v1 := in_res ha
  have v2 := in_res hb
  have v3 : Grp.gIn (2305843009213691579 - Grp.gMul a 1) = !decide (Grp.mem (Grp.rs a)) := by
    rw [← Pc, gIn_val (by rw [Pc]; omega) (by rw [ga]; omega), ga, ← Int.ofNat_sub (Nat.le_of_lt la), Grp.rs_of_lt (by omega), mem_neg ha la]
  have v4 : Grp.gIn (Grp.gMul (Grp.gMul a 1) (Grp.gMul a 1)) = true := by
    have hm := mem_sq ha la
    have hn := Grp.mul_ne ha ha la la
    rw [Grp.gMul_nat, ra, Grp.gIn_iff, Grp.rs_mod]
    have := Nat.mod_lt (Grp.rs a * Grp.rs a) (show 0 < Grp.Pn by decide +kernel)
    exact ⟨by omega, by omega, hm⟩
  have v5 : Grp.gIn (Grp.gExp 4 e) = true := by
    have hm := mem_pw mem4 (Grp.ex e)
    have hn := Grp.mem_ne hm
    unfold Grp.gExp
    rw [rs4, Grp.gIn_iff, Grp.rs_mod]
    have := Nat.mod_lt (4 ^ Grp.ex e) (show 0 < Grp.Pn by decide +kernel)
    exact ⟨by omega, by omega, hm⟩
  have v6 : Grp.gIn (Grp.gMul (Grp.gMul a 1) (Grp.gMul b 1)) = (decide (Grp.mem (Grp.rs a)) == decide (Grp.mem (Grp.rs b))) := by
    have hn := Grp.mul_ne ha hb la lb
    have := Nat.mod_lt (Grp.rs a * Grp.rs b) (show 0 < Grp.Pn by decide +kernel)
    rw [Grp.gMul_nat, ra, rb, gIn_val (by omega) (by omega), Grp.rs_mod, mem_mul ha hb la lb]
  obtain ⟨i, hi⟩ : ∃ i, Grp.gExp (Grp.gMul a 1) ((Grp.Pn : Int) - 2) = i := ⟨_, rfl⟩
  have m1 : Grp.gMul i (Grp.gMul a 1) = 1 := by rw [← hi]; exact Grp.inv_mul' (by rw [ra]; exact ha)
  have v7 : Grp.gIn i = decide (Grp.mem (Grp.rs a)) := by
    have hn : i ≠ 0 := hi ▸ Grp.exp_ne_zero (by rw [ra]; exact ha)
    have hbd := exp_bd (Grp.gMul a 1) ((Grp.Pn : Int) - 2)
    rw [hi, ← Pc] at hbd
    have hri : Grp.rs i ≠ 0 := by
      intro h
      rw [mul_zero_left h] at m1
      exact absurd m1 (by decide)
    rw [gIn_val (by omega) (by omega)]
    have hmm := mem_mul hri ha (Grp.rs_lt i) la
    have e1 : Grp.rs i * Grp.rs a % Grp.Pn = 1 := by
      have := Grp.gMul_nat i (Grp.gMul a 1)
      rw [m1, ra] at this
      omega
    rw [e1, decide_eq_true mem_one] at hmm
    revert hmm
    cases decide (Grp.mem (Grp.rs i)) <;> cases decide (Grp.mem (Grp.rs a)) <;> simp
  rw [hi] at i1
  have m2 := bt m1
  have v8 : (Grp.gExp (Grp.gMul a 1) 1152921504606845789 == 1) = decide (Grp.mem (Grp.rs a)) ∧ (Grp.gExp (Grp.gMul a 1) 1152921504606845789 == 2305843009213691578) = !decide (Grp.mem (Grp.rs a)) := by
    have hx : Grp.ex 1152921504606845789 = Grp.Qn := by decide +kernel
    unfold Grp.gExp
    rw [ra, hx, dm]
    rcases Grp.half ha la with h | h <;> rw [h] <;> constructor <;> decide +kernel
  obtain ⟨v8, v9⟩ := v8
  have v10 : Grp.gIn a = (decide (Grp.mem (Grp.rs a)) && (a == Grp.gMul a 1)) := by
    by_cases h : 0 < a ∧ a < (Grp.Pn : Int)
    · have : Grp.gMul a 1 = a := by unfold Grp.gMul; rw [Int.mul_one, Int.emod_eq_of_lt (by omega) h.2]
      rw [gIn_val h.1 h.2, this]
      simp
    · have hne : (a == Grp.gMul a 1) = false := bf (by intro h2; rw [← Pc] at ba; have : Grp.gMul a 1 ≠ 0 := mul_ne_zero (b := 1) ha (by decide +kernel); omega)
      rw [gIn_out h, hne]
      simp
  obtain ⟨b1, b2⟩ := ba
  clear ra rb la lb ga hi m1 ha hb
  generalize decide (Grp.mem (Grp.rs a)) = p at *
  generalize decide (Grp.mem (Grp.rs b)) = q at *
  obtain ⟨r, hr⟩ : ∃ r, (a == Grp.gMul a 1) = r := ⟨_, rfl⟩
  rw [hr] at v10
  cases p
  all_goals
    cases q
    all_goals
      cases r
      all_goals
        simp only [Bool.not_true, Bool.not_false, Bool.and_true, Bool.and_false, BEq.rfl, beq_false, beq_true] at v1 v2 v3 v6 v7 v8 v9 v10
        go_enter Try.func4, Try.ntmps4
        go_wp2_with (first | (go_at_call 8; refine (small_any _).mono ?_; rintro e w' ⟨rfl, n, rfl⟩) | (go_at_call 9; refine (inv_any _ _).mono ?_; rintro e w' ⟨rfl, n, rfl⟩) | (go_at_call 13; refine (exp_any _ _ (by first | omega | assumption) _).mono ?_; rintro e w' ⟨rfl, n, rfl⟩) | (go_at_call 15; refine (in_any _ _).mono ?_; rintro e w' ⟨rfl, n, rfl⟩) | (go_at_call 11; refine (mul_any _ _ _).mono ?_; rintro e w' ⟨rfl, n, rfl⟩) | (go_at_call 17; refine (addQ_any _ _ _).mono ?_; rintro e w' ⟨rfl, rfl⟩) | (go_at_call 19; refine (subQ_any _ _ _).mono ?_; rintro e w' ⟨rfl, rfl⟩) | (go_at_call 21; refine (mulQ_any _ _ _).mono ?_; rintro e w' ⟨rfl, n, rfl⟩))
        go_ret
        exact ⟨rfl, _, rfl⟩

end Go.Proofs.Ytenbinclccnlgaa
