/- Part 8 of the proof of TopRights: The contract of math/bits.Div64 and Rem64: the quotient and the remainder of a number of 128 bits. Contracts of package exact: Add, Sub, Clamp and Scale compute the plain functions Xa.add, Xa.sub, Xa.clamp, Xa.scale. The proportional division: plain arithmetic on lists. -/
import Derived.Test.YtngjakahanmepaaGreatDoorM06
import Derived.Test.YtngjakahanmepaaGreatDoorM07
import Derived.Deep.QuietTactic
import Derived.BigQuiet
import Derived.Deep.CutBlock
import Derived.Deep.DeepCutAuto
import Derived.Deep.LoopGhost
namespace Go.Proofs.YtngjakahanmepaaGreatDoor
open Go.RowKit
set_option linter.unusedVariables false
set_option linter.unusedSimpArgs false
theorem ret_int2 {k l : IntKind} {a b c d : Int} (h : a = b) (h' : c = d) : Ending.returned (.tuple #[.int k a, .int l c]) = .returned (.tuple #[.int k b, .int l d]) := by rw [h, h']
set_option maxHeartbeats 1000000 in
theorem div64_zero (lo y : Nat) (h1 : lo < 18446744073709551616) (h2 : y < 18446744073709551616) (h3 : 0 < y) (w : World) :
    Calls Tryz.prog 112 #[.int .u64 0, .int .u64 lo, .int .u64 y] w fun e w' => e = .returned (.tuple #[.int .u64 ((lo / y : Nat) : Int), .int .u64 ((lo % y : Nat) : Int)]) ∧ ∃ n, w' = w.drewN n := by
  have hy : ((y : Int) == 0) = false := by simp; omega
  have hn : (1 : Int) ≤ (y : Int) := by omega
  have hle : decide ((y : Int) ≤ 0) = false := by simp; omega
  go_enter Tryz.func112, Tryz.ntmps112
  go_wp2
  go_quiet (fail)
  go_wp2
  go_ret2
  exact ⟨by
    have e : IntKind.u64.wrap ((lo : Int) / (y : Int)) = ((lo / y : Nat) : Int) := by
      rw [← Int.natCast_ediv]
      exact Mu.wrapN _ (Nat.lt_of_le_of_lt (Nat.div_le_self _ _) h1)
    have e2 : (lo : Int) % (y : Int) = ((lo % y : Nat) : Int) := (Int.natCast_emod _ _).symm
    exact ret_int2 e e2, _, rfl⟩
set_option maxHeartbeats 4000000 in
set_option maxRecDepth 100000 in
theorem div64_core (hi lo y s yy y1 y0 u u10 d1 d0 q p Q1 a1 a2 a3 u21 q2 p2 Q0 b1 b2 b3 kk rem : Nat) (h0 : 0 < hi) (h2 : y < 18446744073709551616) (h3 : hi < y) (hs : 64 - (Lib.bitLen y : Int) = (s : Int)) (hs64 : s < 64)
    (e1 : IntKind.u64.wrap ((y : Int) * 2 ^ s) = (yy : Int)) (e2 : (yy : Int) / 4294967296 = (y1 : Int)) (e3 : bits .and .u64 (yy : Int) 4294967295 = (y0 : Int)) (hy1 : 2147483648 ≤ y1) (hy2 : y1 < 4294967296) (hy0 : y0 < 4294967296)
    (e4 : bits .or .u64 (IntKind.u64.wrap ((hi : Int) * 2 ^ s)) ((lo : Int) / 2 ^ (64 - s)) = (u : Int)) (e5 : IntKind.u64.wrap ((lo : Int) * 2 ^ s) = (u10 : Int)) (e6 : (u10 : Int) / 4294967296 = (d1 : Int)) (e7 : bits .and .u64 (u10 : Int) 4294967295 = (d0 : Int))
    (hd1 : d1 < 4294967296) (hd0 : d0 < 4294967296)
    (e8 : IntKind.u64.wrap ((u : Int) / (y1 : Int)) = (q : Int)) (e9 : IntKind.u64.wrap ((q : Int) * (y1 : Int)) = (p : Int)) (hp : p ≤ u) (hpr : u - p < 4294967296) (hu : u < 18446744073709551616)
    (A1 : Dv.At y1 y0 u d1 q (u - p)) (hlt : u < y1 * 4294967296 + y0) (hQ1 : ∀ a b, Dv.At y1 y0 u d1 a b → (a * y0 ≤ 4294967296 * b + d1 ∨ a ≤ 4294967296 ∧ 4294967296 ≤ b) → a = Q1)
    (e11 : IntKind.u64.wrap ((u : Int) * 4294967296) = (a1 : Int)) (e12 : IntKind.u64.wrap ((a1 : Int) + (d1 : Int)) = (a2 : Int)) (e13 : IntKind.u64.wrap ((Q1 : Int) * (yy : Int)) = (a3 : Int)) (e14 : IntKind.u64.wrap ((a2 : Int) - (a3 : Int)) = (u21 : Int))
    (e15 : IntKind.u64.wrap ((u21 : Int) / (y1 : Int)) = (q2 : Int)) (e16 : IntKind.u64.wrap ((q2 : Int) * (y1 : Int)) = (p2 : Int)) (hp2 : p2 ≤ u21) (hpr2 : u21 - p2 < 4294967296) (hu21 : u21 < 18446744073709551616)
    (A2 : Dv.At y1 y0 u21 d0 q2 (u21 - p2)) (hlt2 : u21 < y1 * 4294967296 + y0) (hQ2 : ∀ a b, Dv.At y1 y0 u21 d0 a b → (a * y0 ≤ 4294967296 * b + d0 ∨ a ≤ 4294967296 ∧ 4294967296 ≤ b) → a = Q0)
    (hQ1b : Q1 < 4294967296) (hQ0b : Q0 < 4294967296)
    (e17 : IntKind.u64.wrap ((u21 : Int) * 4294967296) = (b1 : Int)) (e18 : IntKind.u64.wrap ((b1 : Int) + (d0 : Int)) = (b2 : Int)) (e19 : IntKind.u64.wrap ((Q0 : Int) * (yy : Int)) = (b3 : Int)) (e20 : IntKind.u64.wrap ((b2 : Int) - (b3 : Int)) = (kk : Int)) (e21 : (kk : Int) / 2 ^ s = (rem : Int))
    (w : World) :
    Calls Tryz.prog 112 #[.int .u64 hi, .int .u64 lo, .int .u64 y] w fun e w' => e = .returned (.tuple #[.int .u64 ((Q1 * 4294967296 + Q0 : Nat) : Int), .int .u64 (rem : Int)]) ∧ w = w' := by
  have hy : ((y : Int) == 0) = false := beq_eq_false_iff_ne.2 (by omega)
  have hh : ((hi : Int) == 0) = false := beq_eq_false_iff_ne.2 (by omega)
  have hle : decide ((y : Int) ≤ (hi : Int)) = false := decide_eq_false (by omega)
  have L := lz64_any y w (by omega) (by omega) (by rw [Int.toNat_natCast]; omega)
  rw [Int.toNat_natCast, hs] at L
  have HL := Lib.hid L
  have HA1 := Lib.hid A1
  have HQ1 := Lib.hid hQ1
  have LTd1 := Lib.hid hlt
  have HA2 := Lib.hid A2
  have HQ2 := Lib.hid hQ2
  have LTd0 := Lib.hid hlt2
  clear L hs A1 hQ1 hlt A2 hQ2 hlt2
  go_enter Tryz.func112, Tryz.ntmps112
  go_upto_block 0 with (go_at_call 126; refine HL.out.mono ?_; rintro e w' ⟨rfl, rfl⟩)
  go_cut [15] (fun s15 wx => s15 = .int .u64 (Q1 : Int) ∧ w = wx)
  case first =>
    go_wp2_with fail
    go_loopg [15, 16] 4294967296 (fun k s15 s16 wr => ∃ a b : Nat, s15 = .int .u64 (a : Int) ∧ s16 = .int .u64 (b : Int) ∧ Hid (Dv.At y1 y0 u d1 a b) ∧ b < 4294967296 ∧ Hid (4294967296 ≤ b + k) ∧ w = wr)
    case atStart => exact ⟨q, u - p, rfl, by rw [Int.ofNat_sub hp], HA1, hpr, Lib.hid (by omega), rfl⟩
    case round =>
      obtain ⟨a, b, rfl, rfl, HA, hb, hk, rfl⟩ := hrel
      have hcap := HA.out.cap
      have hm : IntKind.u64.wrap ((a : Int) * (y0 : Int)) = ((a * y0 : Nat) : Int) := by
        rw [← Int.natCast_mul]
        exact Mu.wrapN (a * y0) (Nat.lt_of_le_of_lt (Nat.mul_le_mul hcap (Nat.le_of_lt_succ hy0)) (by unfold Dv.B; omega))
      have hq := fun h => HQ1.out a b HA.out (.inl h)
      have hb2 := fun h => HQ1.out (a - 1) (b + y1) h
      have hstep := Dv.step (q := a) (r := b) LTd1.out hd1 HA.out
      generalize a * y0 = m at hm hq hstep
      have Hq := Lib.hid hq
      have Hb2 := Lib.hid hb2
      have Hstep := Lib.hid hstep
      clear hq hstep hcap hb2
      have goOn : (4294967296 ≤ a ∨ 4294967296 * b + d1 < m) → Dv.At y1 y0 u d1 (a - 1) (b + y1) ∧ 1 ≤ a ∧ a - 1 ≤ 4294967296 := Hstep.out
      have HgoOn := Lib.hid goOn
      clear goOn Hstep
      by_cases hc1 : 4294967296 ≤ a
      · have t1 : decide ((4294967296 : Int) ≤ (a : Int)) = true := decide_eq_true (by omega)
        obtain ⟨g1, g2, g3⟩ := HgoOn.out (.inl hc1)
        have HG := Lib.hid g1
        clear g1
        by_cases hr : 4294967296 ≤ b + y1
        · have t3 : decide ((4294967296 : Int) ≤ (b : Int) + (y1 : Int)) = true := decide_eq_true (by omega)
          have hQ := Hb2.out HG.out (.inr ⟨g3, hr⟩)
          have HQ := Lib.hid hQ
          clear hQ
          go_wp2_with fail
          go_meet
          exact ⟨by rw [← HQ.out, Int.ofNat_sub g2]; rfl, rfl⟩
        · have t3 : decide ((4294967296 : Int) ≤ (b : Int) + (y1 : Int)) = false := decide_eq_false (by omega)
          go_wp2_with fail
          go_roundg (4294967296 - (b + y1))
          case measure => have := hk.out; omega
          case rel => exact ⟨a - 1, b + y1, by rw [Int.ofNat_sub g2]; rfl, by rw [Int.natCast_add], HG, by omega, Lib.hid (by omega), rfl⟩
      · have t1 : decide ((4294967296 : Int) ≤ (a : Int)) = false := decide_eq_false (by omega)
        by_cases hc2 : 4294967296 * b + d1 < m
        · have t2 : decide (4294967296 * (b : Int) + (d1 : Int) < (m : Int)) = true := decide_eq_true (by omega)
          obtain ⟨g1, g2, g3⟩ := HgoOn.out (.inr hc2)
          have HG := Lib.hid g1
          clear g1
          by_cases hr : 4294967296 ≤ b + y1
          · have t3 : decide ((4294967296 : Int) ≤ (b : Int) + (y1 : Int)) = true := decide_eq_true (by omega)
            have hQ := Hb2.out HG.out (.inr ⟨g3, hr⟩)
            have HQ := Lib.hid hQ
            clear hQ
            go_wp2_with fail
            go_meet
            exact ⟨by rw [← HQ.out, Int.ofNat_sub g2]; rfl, rfl⟩
          · have t3 : decide ((4294967296 : Int) ≤ (b : Int) + (y1 : Int)) = false := decide_eq_false (by omega)
            go_wp2_with fail
            go_roundg (4294967296 - (b + y1))
            case measure => have := hk.out; omega
            case rel => exact ⟨a - 1, b + y1, by rw [Int.ofNat_sub g2]; rfl, by rw [Int.natCast_add], HG, by omega, Lib.hid (by omega), rfl⟩
        · have t2 : decide (4294967296 * (b : Int) + (d1 : Int) < (m : Int)) = false := decide_eq_false (by omega)
          have hQ := Hq.out (by omega)
          have HQ := Lib.hid hQ
          clear hQ
          go_wp2_with fail
          go_meet
          exact ⟨by rw [← HQ.out], rfl⟩
  case rest =>
    obtain ⟨rfl, rfl⟩ := hcut
    go_upto_block 2 with (fail)
    go_cut [18] (fun s18 wx => s18 = .int .u64 (Q0 : Int) ∧ w = wx)
    case first =>
      go_wp2_with fail
      go_loopg [18, 16] 4294967296 (fun k s18 s16 wr => ∃ a b : Nat, s18 = .int .u64 (a : Int) ∧ s16 = .int .u64 (b : Int) ∧ Hid (Dv.At y1 y0 u21 d0 a b) ∧ b < 4294967296 ∧ Hid (4294967296 ≤ b + k) ∧ w = wr)
      case atStart => exact ⟨q2, u21 - p2, rfl, by rw [Int.ofNat_sub hp2], HA2, hpr2, Lib.hid (by omega), rfl⟩
      case round =>
        obtain ⟨a, b, rfl, rfl, HA, hb, hk, rfl⟩ := hrel
        have hcap := HA.out.cap
        have hm : IntKind.u64.wrap ((a : Int) * (y0 : Int)) = ((a * y0 : Nat) : Int) := by
          rw [← Int.natCast_mul]
          exact Mu.wrapN (a * y0) (Nat.lt_of_le_of_lt (Nat.mul_le_mul hcap (Nat.le_of_lt_succ hy0)) (by unfold Dv.B; omega))
        have hq := fun h => HQ2.out a b HA.out (.inl h)
        have hb2 := fun h => HQ2.out (a - 1) (b + y1) h
        have hstep := Dv.step (q := a) (r := b) LTd0.out hd0 HA.out
        generalize a * y0 = m at hm hq hstep
        have Hq := Lib.hid hq
        have Hb2 := Lib.hid hb2
        have Hstep := Lib.hid hstep
        clear hq hstep hcap hb2
        have goOn : (4294967296 ≤ a ∨ 4294967296 * b + d0 < m) → Dv.At y1 y0 u21 d0 (a - 1) (b + y1) ∧ 1 ≤ a ∧ a - 1 ≤ 4294967296 := Hstep.out
        have HgoOn := Lib.hid goOn
        clear goOn Hstep
        by_cases hc1 : 4294967296 ≤ a
        · have t1 : decide ((4294967296 : Int) ≤ (a : Int)) = true := decide_eq_true (by omega)
          obtain ⟨g1, g2, g3⟩ := HgoOn.out (.inl hc1)
          have HG := Lib.hid g1
          clear g1
          by_cases hr : 4294967296 ≤ b + y1
          · have t3 : decide ((4294967296 : Int) ≤ (b : Int) + (y1 : Int)) = true := decide_eq_true (by omega)
            have hQ := Hb2.out HG.out (.inr ⟨g3, hr⟩)
            have HQ := Lib.hid hQ
            clear hQ
            go_wp2_with fail
            go_meet
            exact ⟨by rw [← HQ.out, Int.ofNat_sub g2]; rfl, rfl⟩
          · have t3 : decide ((4294967296 : Int) ≤ (b : Int) + (y1 : Int)) = false := decide_eq_false (by omega)
            go_wp2_with fail
            go_roundg (4294967296 - (b + y1))
            case measure => have := hk.out; omega
            case rel => exact ⟨a - 1, b + y1, by rw [Int.ofNat_sub g2]; rfl, by rw [Int.natCast_add], HG, by omega, Lib.hid (by omega), rfl⟩
        · have t1 : decide ((4294967296 : Int) ≤ (a : Int)) = false := decide_eq_false (by omega)
          by_cases hc2 : 4294967296 * b + d0 < m
          · have t2 : decide (4294967296 * (b : Int) + (d0 : Int) < (m : Int)) = true := decide_eq_true (by omega)
            obtain ⟨g1, g2, g3⟩ := HgoOn.out (.inr hc2)
            have HG := Lib.hid g1
            clear g1
            by_cases hr : 4294967296 ≤ b + y1
            · have t3 : decide ((4294967296 : Int) ≤ (b : Int) + (y1 : Int)) = true := decide_eq_true (by omega)
              have hQ := Hb2.out HG.out (.inr ⟨g3, hr⟩)
              have HQ := Lib.hid hQ
              clear hQ
              go_wp2_with fail
              go_meet
              exact ⟨by rw [← HQ.out, Int.ofNat_sub g2]; rfl, rfl⟩
            · have t3 : decide ((4294967296 : Int) ≤ (b : Int) + (y1 : Int)) = false := decide_eq_false (by omega)
              go_wp2_with fail
              go_roundg (4294967296 - (b + y1))
              case measure => have := hk.out; omega
              case rel => exact ⟨a - 1, b + y1, by rw [Int.ofNat_sub g2]; rfl, by rw [Int.natCast_add], HG, by omega, Lib.hid (by omega), rfl⟩
          · have t2 : decide (4294967296 * (b : Int) + (d0 : Int) < (m : Int)) = false := decide_eq_false (by omega)
            have hQ := Hq.out (by omega)
            have HQ := Lib.hid hQ
            clear hQ
            go_wp2_with fail
            go_meet
            exact ⟨by rw [← HQ.out], rfl⟩
    case rest =>
      obtain ⟨rfl, rfl⟩ := hcut
      go_wp2_with fail
      go_ret2
      exact ⟨ret_int2 (by rw [Int.natCast_add, Int.natCast_mul]; rfl) rfl, rfl⟩
theorem bitLenAux_spec : ∀ (f x : Nat), x < 2 ^ f → x < 2 ^ Lib.bitLenAux f x ∧ (x ≠ 0 → 2 ^ Lib.bitLenAux f x ≤ 2 * x) ∧ Lib.bitLenAux f x ≤ f
  | 0, x, h => by
    have : x = 0 := by simpa using h
    simp [this, Lib.bitLenAux]
  | f + 1, x, h => by
    unfold Lib.bitLenAux
    by_cases hx : x = 0
    · simp [hx]
    · rw [if_neg hx]
      obtain ⟨i1, i2, i3⟩ := bitLenAux_spec f (x / 2) (by rw [Nat.pow_succ] at h; omega)
      rw [Nat.add_comm 1, Nat.pow_succ]
      refine ⟨by omega, fun _ => ?_, by omega⟩
      by_cases h2 : x / 2 = 0
      · have e : Lib.bitLenAux f (x / 2) = 0 := by
          rw [h2]
          cases f <;> simp [Lib.bitLenAux]
        rw [e]
        omega
      · have := i2 h2
        omega
theorem bitLen_spec (x : Nat) (h : x < 18446744073709551616) (h0 : x ≠ 0) : x < 2 ^ Lib.bitLen x ∧ 2 ^ Lib.bitLen x ≤ 2 * x ∧ Lib.bitLen x ≤ 64 := by
  obtain ⟨a, b, c⟩ := bitLenAux_spec 64 x (by omega)
  exact ⟨a, b h0, c⟩
theorem pow_cast (s : Nat) : ((2 : Int) ^ s) = ((2 ^ s : Nat) : Int) := by rw [Int.natCast_pow]; rfl
theorem shift_or {a s b : Nat} (hb : b < 2 ^ s) : a * 2 ^ s ||| b = a * 2 ^ s + b := by
  rw [Nat.mul_comm, Nat.two_pow_add_eq_or_of_lt hb]
theorem step_nums (y1 y0 u d : Nat) (h1 : 2147483648 ≤ y1) (h1' : y1 < 4294967296) (h0 : y0 < 4294967296) (hd : d < 4294967296) (hu : u < y1 * 4294967296 + y0) :
    ∃ q p Q a1 a2 a3 v : Nat, IntKind.u64.wrap ((u : Int) / (y1 : Int)) = (q : Int) ∧ IntKind.u64.wrap ((q : Int) * (y1 : Int)) = (p : Int) ∧ p ≤ u ∧ u - p < 4294967296 ∧ u < 18446744073709551616 ∧
      Dv.At y1 y0 u d q (u - p) ∧ (∀ a b, Dv.At y1 y0 u d a b → (a * y0 ≤ 4294967296 * b + d ∨ a ≤ 4294967296 ∧ 4294967296 ≤ b) → a = Q) ∧ Q < 4294967296 ∧
      IntKind.u64.wrap ((u : Int) * 4294967296) = (a1 : Int) ∧ IntKind.u64.wrap ((a1 : Int) + (d : Int)) = (a2 : Int) ∧ IntKind.u64.wrap ((Q : Int) * ((y1 * 4294967296 + y0 : Nat) : Int)) = (a3 : Int) ∧ IntKind.u64.wrap ((a2 : Int) - (a3 : Int)) = (v : Int) ∧
      Q = (u * 4294967296 + d) / (y1 * 4294967296 + y0) ∧ v = (u * 4294967296 + d) % (y1 * 4294967296 + y0) ∧ v < y1 * 4294967296 + y0 := by
  have hy : 0 < y1 * 4294967296 + y0 := by omega
  have hdm := Nat.div_add_mod (u * 4294967296 + d) (y1 * 4294967296 + y0)
  have hml := Nat.mod_lt (u * 4294967296 + d) hy
  have hq64 : u / y1 < 18446744073709551616 := Nat.lt_of_le_of_lt (Nat.div_le_self _ _) (by omega)
  have hqy : u / y1 * y1 ≤ u := Nat.div_mul_le_self u y1
  have hmod := Nat.mod_lt u (show 0 < y1 by omega)
  have hdm2 := Nat.div_add_mod u y1
  have hQ : (u * 4294967296 + d) / (y1 * 4294967296 + y0) < 4294967296 := by
    rw [Nat.div_lt_iff_lt_mul hy, Nat.mul_comm 4294967296]
    have : (u + 1) * 4294967296 ≤ (y1 * 4294967296 + y0) * 4294967296 := Nat.mul_le_mul_right _ hu
    rw [Nat.add_mul] at this
    omega
  refine ⟨u / y1, u / y1 * y1, (u * 4294967296 + d) / (y1 * 4294967296 + y0), u * 4294967296 % 18446744073709551616, (u * 4294967296 % 18446744073709551616 + d) % 18446744073709551616,
    (u * 4294967296 + d) / (y1 * 4294967296 + y0) * (y1 * 4294967296 + y0) % 18446744073709551616, (u * 4294967296 + d) % (y1 * 4294967296 + y0), ?_, ?_, hqy, ?_, by omega, Dv.start h1 h0 hd hu, ?_, hQ, ?_, ?_, ?_, ?_, rfl, rfl, hml⟩
  · rw [← Int.natCast_ediv]; exact Mu.wrapN _ hq64
  · rw [← Int.natCast_mul]; exact Mu.wrapN _ (by omega)
  · rw [Nat.mul_comm]; omega
  · intro a b A h
    rcases h with h | ⟨h, h'⟩
    · exact Dv.stop h1 A h
    · exact Dv.brk h1 h0 A h h'
  · rw [IntKind.wrap_u64]; omega
  · rw [IntKind.wrap_u64]; omega
  · rw [← Int.natCast_mul]; exact Mu.wrapM _
  · rw [IntKind.wrap_u64]
    exact Dv.wrap_rem u d _ _ (by rw [Nat.mul_comm]; exact hdm) (Nat.lt_of_lt_of_le hml (by omega))
set_option maxHeartbeats 1000000 in
theorem div64_pos (hi lo y : Nat) (h0 : 0 < hi) (h1 : lo < 18446744073709551616) (h2 : y < 18446744073709551616) (h3 : hi < y) (w : World) :
    Calls Tryz.prog 112 #[.int .u64 hi, .int .u64 lo, .int .u64 y] w fun e w' => e = .returned (.tuple #[.int .u64 (((hi * 18446744073709551616 + lo) / y : Nat) : Int), .int .u64 (((hi * 18446744073709551616 + lo) % y : Nat) : Int)]) ∧ w = w' := by
  obtain ⟨n1, n2, n3⟩ := bitLen_spec y h2 (by omega)
  obtain ⟨s, hs⟩ : ∃ s : Nat, s = 64 - Lib.bitLen y := ⟨_, rfl⟩
  have hn1 : Lib.bitLen y ≠ 0 := by
    intro e
    rw [e] at n1
    omega
  have hK : 0 < 2 ^ s := Nat.two_pow_pos s
  have hKK : 2 ^ Lib.bitLen y * 2 ^ s = 18446744073709551616 := by rw [← Nat.pow_add, show Lib.bitLen y + s = 64 from by omega]
  have hKs : 2 ^ (64 - s) * 2 ^ s = 18446744073709551616 := by rw [← Nat.pow_add, show 64 - s + s = 64 from by omega]
  have hyl : 9223372036854775808 ≤ y * 2 ^ s := by
    have := Nat.mul_le_mul_right (2 ^ s) n2
    rw [hKK, Nat.mul_assoc] at this
    omega
  have hyu : y * 2 ^ s < 18446744073709551616 := by rw [← hKK]; exact Nat.mul_lt_mul_of_pos_right n1 hK
  have hlo : lo / 2 ^ (64 - s) < 2 ^ s := by rw [Nat.div_lt_iff_lt_mul (Nat.two_pow_pos _), Nat.mul_comm, hKs]; exact h1
  have hhi : (hi + 1) * 2 ^ s ≤ y * 2 ^ s := Nat.mul_le_mul_right _ h3
  rw [Nat.add_mul, Nat.one_mul] at hhi
  have hu10 : lo * 2 ^ s = lo / 2 ^ (64 - s) * 18446744073709551616 + lo * 2 ^ s % 18446744073709551616 := by
    have e : lo * 2 ^ s / 18446744073709551616 = lo / 2 ^ (64 - s) := by rw [← hKs, Nat.mul_div_mul_right _ _ hK]
    have := Nat.div_add_mod' (lo * 2 ^ s) 18446744073709551616
    rw [e] at this
    omega
  have hyy : y * 2 ^ s / 4294967296 * 4294967296 + y * 2 ^ s % 4294967296 = y * 2 ^ s := Nat.div_add_mod' _ _
  obtain ⟨q, p, Q1, a1, a2, a3, u21, e8, e9, hp, hpr, hu, A1, hQ1, hQ1b, e11, e12, e13, e14, k1, k2, k3⟩ := step_nums (y * 2 ^ s / 4294967296) (y * 2 ^ s % 4294967296) (hi * 2 ^ s + lo / 2 ^ (64 - s)) (lo * 2 ^ s % 18446744073709551616 / 4294967296) (by omega) (by omega) (by omega) (by omega) (by rw [hyy]; omega)
  obtain ⟨q2, p2, Q0, b1, b2, b3, kk, e15, e16, hp2, hpr2, hu21, A2, hQ2, hQ0b, e17, e18, e19, e20, k4, k5, k6⟩ := step_nums (y * 2 ^ s / 4294967296) (y * 2 ^ s % 4294967296) u21 (lo * 2 ^ s % 18446744073709551616 % 4294967296) (by omega) (by omega) (by omega) (by omega) k3
  have hw := Dv.whole (hi := hi) (lo := lo) (y := y) (k := kk) (u32 := hi * 2 ^ s + lo / 2 ^ (64 - s)) (u10 := lo * 2 ^ s % 18446744073709551616) (q1 := Q1) (u21 := u21) (q0 := Q0) (2 ^ s) hK
    (Dv.shift_sum hu10)
    (by rw [k1, hyy]) (by rw [k2, hyy]) (by rw [k4, hyy]) (by rw [k5, hyy]) (by omega)
  obtain ⟨w1, w2⟩ := hw
  have e21 : (kk : Int) / 2 ^ s = (((hi * 18446744073709551616 + lo) % y : Nat) : Int) := by
    rw [pow_cast, ← Int.natCast_ediv, w2, Nat.mul_div_cancel _ hK]
  rw [hyy] at e13 e19
  have hc := div64_core hi lo y s (y * 2 ^ s) (y * 2 ^ s / 4294967296) (y * 2 ^ s % 4294967296) (hi * 2 ^ s + lo / 2 ^ (64 - s)) (lo * 2 ^ s % 18446744073709551616) (lo * 2 ^ s % 18446744073709551616 / 4294967296) (lo * 2 ^ s % 18446744073709551616 % 4294967296)
    q p Q1 a1 a2 a3 u21 q2 p2 Q0 b1 b2 b3 kk ((hi * 18446744073709551616 + lo) % y) h0 h2 h3 (by omega) (by omega)
    (by rw [pow_cast, ← Int.natCast_mul]; exact Mu.wrapN _ hyu) (by omega) (Mu.maskN _ hyu) (by omega) (by omega) (by omega)
    (by
      rw [pow_cast, pow_cast, ← Int.natCast_mul, ← Int.natCast_ediv, Mu.wrapN _ (by omega), bits_or_u64_nat _ _ (by omega) (by omega), shift_or hlo])
    (by rw [pow_cast, ← Int.natCast_mul]; exact Mu.wrapM _) (by omega) (Mu.maskN _ (by omega)) (by omega) (by omega) e8 e9 hp hpr hu A1 (by rw [hyy]; omega) hQ1 e11 e12 e13 e14 e15 e16 hp2 hpr2 hu21 A2 k3 hQ2 hQ1b hQ0b e17 e18 e19 e20 e21 w
  rw [show Q1 * 4294967296 + Q0 = (hi * 18446744073709551616 + lo) / y from w1] at hc
  exact hc
theorem div64_any (hi lo y : Nat) (h1 : lo < 18446744073709551616) (h2 : y < 18446744073709551616) (h3 : hi < y) (w : World) :
    Calls Tryz.prog 112 #[.int .u64 hi, .int .u64 lo, .int .u64 y] w fun e w' => e = .returned (.tuple #[.int .u64 (((hi * 18446744073709551616 + lo) / y : Nat) : Int), .int .u64 (((hi * 18446744073709551616 + lo) % y : Nat) : Int)]) ∧ ∃ n, w' = w.drewN n := by
  rcases Nat.eq_zero_or_pos hi with rfl | h0
  · refine (div64_zero lo y h1 h2 (by omega) w).mono ?_
    rintro e w' ⟨rfl, h⟩
    exact ⟨by rw [Nat.zero_mul, Nat.zero_add], h⟩
  · refine (div64_pos hi lo y h0 h1 h2 h3 w).mono ?_
    rintro e w' ⟨rfl, rfl⟩
    exact ⟨rfl, 0, rfl⟩
end Go.Proofs.YtngjakahanmepaaGreatDoor
namespace Go.Proofs.YtngjakahanmepaaGreatDoor
open Go.RowKit
set_option linter.unusedVariables false
set_option linter.unusedSimpArgs false
namespace Xa
def add (a b : Int) : Int := if a + b > 9223372036854775807 then 9223372036854775807 else if a + b < -9223372036854775808 then -9223372036854775808 else a + b
def sub (a b : Int) : Int := if a - b > 9223372036854775807 then 9223372036854775807 else if a - b < -9223372036854775808 then -9223372036854775808 else a - b
def clamp (n lo hi : Int) : Int := if n < lo then lo else if n > hi then hi else n
def fits (a num den : Int) : Bool := decide (0 ≤ a ∧ a ≤ 1125899906842624 ∧ 0 ≤ num ∧ num ≤ 1125899906842624 ∧ 1 ≤ den ∧ den ≤ 1125899906842624 ∧ a * num / den ≤ 1125899906842624)
def scale (a num den : Int) : Int × Int × Bool := if fits a num den = true then (a * num / den, a * num % den, true) else (0, 0, false)
theorem add_bd (a b : Int) : -9223372036854775808 ≤ add a b ∧ add a b ≤ 9223372036854775807 := by
  unfold add
  split
  · omega
  · split <;> omega
end Xa
theorem ret_intx {k : IntKind} {a b : Int} (h : a = b) : Ending.returned (.int k a) = .returned (.int k b) := by rw [h]
set_option maxHeartbeats 1000000 in
theorem add_any (a b : Int) (a1 : -9223372036854775808 ≤ a) (a2 : a ≤ 9223372036854775807) (b1 : -9223372036854775808 ≤ b) (b2 : b ≤ 9223372036854775807) (w : World) :
    Calls Tryz.prog 58 #[.int .i64 a, .int .i64 b] w fun e w' => e = .returned (.int .i64 (Xa.add a b)) ∧ w = w' := by
  by_cases hp : 0 < b
  · have t1 : decide (0 < b) = true := decide_eq_true hp
    have t2 : decide (b < 0) = false := decide_eq_false (by omega)
    by_cases h : 9223372036854775807 - b < a
    · have t3 : decide (9223372036854775807 - b < a) = true := decide_eq_true h
      go_enter Tryz.func58, Tryz.ntmps58
      go_wp2_with fail
      go_ret
      exact ⟨ret_intx (by unfold Xa.add; rw [if_pos (by omega)]), rfl⟩
    · have t3 : decide (9223372036854775807 - b < a) = false := decide_eq_false h
      go_enter Tryz.func58, Tryz.ntmps58
      go_wp2_with fail
      go_ret
      exact ⟨ret_intx (by unfold Xa.add; rw [if_neg (by omega), if_neg (by omega)]), rfl⟩
  · have t1 : decide (0 < b) = false := decide_eq_false hp
    by_cases hn : b < 0
    · have t2 : decide (b < 0) = true := decide_eq_true hn
      by_cases h : a < -9223372036854775808 - b
      · have t3 : decide (a < -9223372036854775808 - b) = true := decide_eq_true h
        go_enter Tryz.func58, Tryz.ntmps58
        go_wp2_with fail
        go_ret
        exact ⟨ret_intx (by unfold Xa.add; rw [if_neg (by omega), if_pos (by omega)]), rfl⟩
      · have t3 : decide (a < -9223372036854775808 - b) = false := decide_eq_false h
        go_enter Tryz.func58, Tryz.ntmps58
        go_wp2_with fail
        go_ret
        exact ⟨ret_intx (by unfold Xa.add; rw [if_neg (by omega), if_neg (by omega)]), rfl⟩
    · have t2 : decide (b < 0) = false := decide_eq_false hn
      go_enter Tryz.func58, Tryz.ntmps58
      go_wp2_with fail
      go_ret
      exact ⟨ret_intx (by unfold Xa.add; rw [if_neg (by omega), if_neg (by omega)]), rfl⟩
set_option maxHeartbeats 1000000 in
theorem sub_any (a b : Int) (a1 : -9223372036854775808 ≤ a) (a2 : a ≤ 9223372036854775807) (b1 : -9223372036854775808 ≤ b) (b2 : b ≤ 9223372036854775807) (w : World) :
    Calls Tryz.prog 98 #[.int .i64 a, .int .i64 b] w fun e w' => e = .returned (.int .i64 (Xa.sub a b)) ∧ w = w' := by
  by_cases hp : b < 0
  · have t1 : decide (b < 0) = true := decide_eq_true hp
    have t2 : decide (0 < b) = false := decide_eq_false (by omega)
    by_cases h : 9223372036854775807 + b < a
    · have t3 : decide (9223372036854775807 + b < a) = true := decide_eq_true h
      go_enter Tryz.func98, Tryz.ntmps98
      go_wp2_with fail
      go_ret
      exact ⟨ret_intx (by unfold Xa.sub; rw [if_pos (by omega)]), rfl⟩
    · have t3 : decide (9223372036854775807 + b < a) = false := decide_eq_false h
      go_enter Tryz.func98, Tryz.ntmps98
      go_wp2_with fail
      go_ret
      exact ⟨ret_intx (by unfold Xa.sub; rw [if_neg (by omega), if_neg (by omega)]), rfl⟩
  · have t1 : decide (b < 0) = false := decide_eq_false hp
    by_cases hn : 0 < b
    · have t2 : decide (0 < b) = true := decide_eq_true hn
      by_cases h : a < -9223372036854775808 + b
      · have t3 : decide (a < -9223372036854775808 + b) = true := decide_eq_true h
        go_enter Tryz.func98, Tryz.ntmps98
        go_wp2_with fail
        go_ret
        exact ⟨ret_intx (by unfold Xa.sub; rw [if_neg (by omega), if_pos (by omega)]), rfl⟩
      · have t3 : decide (a < -9223372036854775808 + b) = false := decide_eq_false h
        go_enter Tryz.func98, Tryz.ntmps98
        go_wp2_with fail
        go_ret
        exact ⟨ret_intx (by unfold Xa.sub; rw [if_neg (by omega), if_neg (by omega)]), rfl⟩
    · have t2 : decide (0 < b) = false := decide_eq_false hn
      go_enter Tryz.func98, Tryz.ntmps98
      go_wp2_with fail
      go_ret
      exact ⟨ret_intx (by unfold Xa.sub; rw [if_neg (by omega), if_neg (by omega)]), rfl⟩
set_option maxHeartbeats 1000000 in
theorem clamp_any (n lo hi : Int) (w : World) :
    Calls Tryz.prog 97 #[.int .i64 n, .int .i64 lo, .int .i64 hi] w fun e w' => e = .returned (.int .i64 (Xa.clamp n lo hi)) ∧ w = w' := by
  by_cases h1 : n < lo
  · go_enter Tryz.func97, Tryz.ntmps97
    go_wp2_with fail
    go_ret
    exact ⟨ret_intx (by unfold Xa.clamp; rw [if_pos h1]), rfl⟩
  · by_cases h2 : hi < n
    · go_enter Tryz.func97, Tryz.ntmps97
      go_wp2_with fail
      go_ret
      exact ⟨ret_intx (by unfold Xa.clamp; rw [if_neg (by omega), if_pos (by omega)]), rfl⟩
    · go_enter Tryz.func97, Tryz.ntmps97
      go_wp2_with fail
      go_ret
      exact ⟨ret_intx (by unfold Xa.clamp; rw [if_neg (by omega), if_neg (by omega)]), rfl⟩
namespace Xa
theorem scale_no {a num den : Int} (h : ¬ (0 ≤ a ∧ a ≤ 1125899906842624 ∧ 0 ≤ num ∧ num ≤ 1125899906842624 ∧ 1 ≤ den ∧ den ≤ 1125899906842624 ∧ a * num / den ≤ 1125899906842624)) : scale a num den = (0, 0, false) := by
  unfold scale fits
  rw [if_neg (by simpa using h)]
theorem scale_yes {a num den : Int} (h : 0 ≤ a ∧ a ≤ 1125899906842624 ∧ 0 ≤ num ∧ num ≤ 1125899906842624 ∧ 1 ≤ den ∧ den ≤ 1125899906842624 ∧ a * num / den ≤ 1125899906842624) : scale a num den = (a * num / den, a * num % den, true) := by
  unfold scale fits
  rw [if_pos (by simpa using h)]
theorem scale_nat {a n d : Nat} (ha : a ≤ 1125899906842624) (hn : n ≤ 1125899906842624) (hd1 : 1 ≤ d) (hd : d ≤ 1125899906842624) :
    scale (a : Int) (n : Int) (d : Int) = if a * n / d ≤ 1125899906842624 then (((a * n / d : Nat) : Int), ((a * n % d : Nat) : Int), true) else (0, 0, false) := by
  have e1 : (a : Int) * (n : Int) / (d : Int) = ((a * n / d : Nat) : Int) := by rw [Int.natCast_ediv, Int.natCast_mul]
  have e2 : (a : Int) * (n : Int) % (d : Int) = ((a * n % d : Nat) : Int) := by rw [Int.natCast_emod, Int.natCast_mul]
  by_cases h : a * n / d ≤ 1125899906842624
  · rw [if_pos h, scale_yes (by rw [e1]; omega), e1, e2]
  · rw [if_neg h, scale_no (by rw [e1]; omega)]
end Xa
set_option maxHeartbeats 2000000 in
theorem scale_in (a n d : Nat) (ha : a ≤ 1125899906842624) (hn : n ≤ 1125899906842624) (hd1 : 1 ≤ d) (hd : d ≤ 1125899906842624) (w : World) :
    Calls Tryz.prog 106 #[.int .i64 (a : Int), .int .i64 (n : Int), .int .i64 (d : Int)] w fun e w' => e = .returned (.tuple #[.int .i64 (Xa.scale a n d).1, .int .i64 (Xa.scale a n d).2.1, .bool (Xa.scale a n d).2.2]) ∧ ∃ k, w' = w.drewN k := by
  rw [Xa.scale_nat ha hn hd1 hd]
  have cm := mul64_any a n (by omega) (by omega) w
  have hdm := Nat.div_add_mod' (a * n) 18446744073709551616
  have hlo := Nat.mod_lt (a * n) (show 0 < 18446744073709551616 by omega)
  have hhi : a * n / 18446744073709551616 < 18446744073709551616 := by
    rw [Nat.div_lt_iff_lt_mul (by omega)]
    exact Nat.mul_lt_mul_of_lt_of_le (by omega) (by omega) (by omega)
  have t1 : decide ((a : Int) < 0) = false := decide_eq_false (by omega)
  have t2 : decide (1125899906842624 < (a : Int)) = false := decide_eq_false (by omega)
  have t3 : decide ((n : Int) < 0) = false := decide_eq_false (by omega)
  have t4 : decide (1125899906842624 < (n : Int)) = false := decide_eq_false (by omega)
  have t5 : decide ((d : Int) < 1) = false := decide_eq_false (by omega)
  have t6 : decide (1125899906842624 < (d : Int)) = false := decide_eq_false (by omega)
  by_cases hov : d ≤ a * n / 18446744073709551616
  · have hq : ¬ a * n / d ≤ 1125899906842624 := by
      intro hle
      have h1 : a * n < d * (1125899906842624 + 1) := by
        have := Nat.div_add_mod (a * n) d
        have h3 := Nat.mod_lt (a * n) (show 0 < d by omega)
        have h4 : d * (a * n / d) ≤ d * 1125899906842624 := Nat.mul_le_mul_left d hle
        rw [Nat.mul_add]
        omega
      have h2 : d * 18446744073709551616 ≤ a * n := by
        have := Nat.mul_le_mul_right 18446744073709551616 hov
        omega
      omega
    rw [if_neg hq]
    generalize a * n / 18446744073709551616 = hi at *
    generalize a * n % 18446744073709551616 = lo at *
    have t7 : decide ((d : Int) ≤ (hi : Int)) = true := decide_eq_true (by omega)
    have CM := Lib.hid cm
    clear cm hdm hq hlo hhi
    go_enter Tryz.func106, Tryz.ntmps106
    go_wp2_with fail
    refine CM.out.mono ?_
    rintro e w' ⟨rfl, rfl⟩
    go_wp2_with fail
    go_ret3
    exact ⟨rfl, 0, rfl⟩
  · have cd := div64_any (a * n / 18446744073709551616) (a * n % 18446744073709551616) d hlo (by omega) (by omega) w
    rw [hdm] at cd
    have hr := Nat.mod_lt (a * n) (show 0 < d by omega)
    have hqq : a * n / d < 18446744073709551616 := by
      rw [Nat.div_lt_iff_lt_mul (by omega)]
      have : (a * n / 18446744073709551616 + 1) * 18446744073709551616 ≤ d * 18446744073709551616 := Nat.mul_le_mul_right _ (by omega)
      omega
    generalize a * n / 18446744073709551616 = hi at *
    generalize a * n % 18446744073709551616 = lo at *
    generalize a * n / d = q at *
    generalize a * n % d = r at *
    have t7 : decide ((d : Int) ≤ (hi : Int)) = false := decide_eq_false (by omega)
    have CM := Lib.hid cm
    have CD := Lib.hid cd
    clear cm cd hdm
    by_cases hq : q ≤ 1125899906842624
    · have t8 : decide (1125899906842624 < (q : Int)) = false := decide_eq_false (by omega)
      rw [if_pos hq]
      go_enter Tryz.func106, Tryz.ntmps106
      go_wp2_with fail
      refine CM.out.mono ?_
      rintro e w' ⟨rfl, rfl⟩
      go_wp2_with fail
      refine CD.out.mono ?_
      rintro e w' ⟨rfl, k, rfl⟩
      go_wp2_with fail
      go_ret3
      exact ⟨rfl, _, rfl⟩
    · have t8 : decide (1125899906842624 < (q : Int)) = true := decide_eq_true (by omega)
      rw [if_neg hq]
      go_enter Tryz.func106, Tryz.ntmps106
      go_wp2_with fail
      refine CM.out.mono ?_
      rintro e w' ⟨rfl, rfl⟩
      go_wp2_with fail
      refine CD.out.mono ?_
      rintro e w' ⟨rfl, k, rfl⟩
      go_wp2_with fail
      go_ret3
      exact ⟨rfl, _, rfl⟩
set_option maxHeartbeats 2000000 in
theorem scale_any (a n d : Int) (w : World) :
    Calls Tryz.prog 106 #[.int .i64 a, .int .i64 n, .int .i64 d] w fun e w' => e = .returned (.tuple #[.int .i64 (Xa.scale a n d).1, .int .i64 (Xa.scale a n d).2.1, .bool (Xa.scale a n d).2.2]) ∧ ∃ k, w' = w.drewN k := by
  by_cases h : 0 ≤ a ∧ a ≤ 1125899906842624 ∧ 0 ≤ n ∧ n ≤ 1125899906842624 ∧ 1 ≤ d ∧ d ≤ 1125899906842624
  · obtain ⟨h1, h2, h3, h4, h5, h6⟩ := h
    obtain ⟨A, rfl⟩ := Int.eq_ofNat_of_zero_le h1
    obtain ⟨N, rfl⟩ := Int.eq_ofNat_of_zero_le h3
    obtain ⟨D, rfl⟩ := Int.eq_ofNat_of_zero_le (show 0 ≤ d by omega)
    exact scale_in A N D (by omega) (by omega) (by omega) (by omega) w
  · rw [Xa.scale_no (fun x => h ⟨x.1, x.2.1, x.2.2.1, x.2.2.2.1, x.2.2.2.2.1, x.2.2.2.2.2.1⟩)]
    obtain ⟨x1, e1⟩ : ∃ b, decide (a < 0) = b := ⟨_, rfl⟩
    obtain ⟨x2, e2⟩ : ∃ b, decide (1125899906842624 < a) = b := ⟨_, rfl⟩
    obtain ⟨x3, e3⟩ : ∃ b, decide (n < 0) = b := ⟨_, rfl⟩
    obtain ⟨x4, e4⟩ : ∃ b, decide (1125899906842624 < n) = b := ⟨_, rfl⟩
    obtain ⟨x5, e5⟩ : ∃ b, decide (d < 1) = b := ⟨_, rfl⟩
    obtain ⟨x6, e6⟩ : ∃ b, decide (1125899906842624 < d) = b := ⟨_, rfl⟩
    have hx : (x1 || x2 || x3 || x4 || x5 || x6) = true := by
      subst e1 e2 e3 e4 e5 e6
      simp only [Bool.or_eq_true, decide_eq_true_eq]
      omega
    cases x1 with
    | true =>
      clear e2 e3 e4 e5 e6 h hx
      go_enter Tryz.func106, Tryz.ntmps106
      go_wp2_with fail
      go_ret3
      exact ⟨rfl, 0, rfl⟩
    | false =>
    cases x2 with
    | true =>
      clear e3 e4 e5 e6 h hx
      go_enter Tryz.func106, Tryz.ntmps106
      go_wp2_with fail
      go_ret3
      exact ⟨rfl, 0, rfl⟩
    | false =>
    cases x3 with
    | true =>
      clear e4 e5 e6 h hx
      go_enter Tryz.func106, Tryz.ntmps106
      go_wp2_with fail
      go_ret3
      exact ⟨rfl, 0, rfl⟩
    | false =>
    cases x4 with
    | true =>
      clear e5 e6 h hx
      go_enter Tryz.func106, Tryz.ntmps106
      go_wp2_with fail
      go_ret3
      exact ⟨rfl, 0, rfl⟩
    | false =>
    cases x5 with
    | true =>
      clear e6 h hx
      go_enter Tryz.func106, Tryz.ntmps106
      go_wp2_with fail
      go_ret3
      exact ⟨rfl, 0, rfl⟩
    | false =>
    cases x6 with
    | true =>
      clear h hx
      go_enter Tryz.func106, Tryz.ntmps106
      go_wp2_with fail
      go_ret3
      exact ⟨rfl, 0, rfl⟩
    | false => simp at hx
end Go.Proofs.YtngjakahanmepaaGreatDoor
namespace Go.Proofs.YtngjakahanmepaaGreatDoor.Pw
set_option linter.unusedVariables false
set_option linter.unusedSimpArgs false
/-! sums -/
def su (f : Nat → Int) : Nat → Int
  | 0 => 0
  | n + 1 => su f n + f n
theorem su_congr {f g : Nat → Int} : ∀ {n : Nat}, (∀ i, i < n → f i = g i) → su f n = su g n
  | 0, _ => rfl
  | n + 1, h => by show su f n + f n = su g n + g n; rw [su_congr fun i hi => h i (by omega), h n (by omega)]
theorem su_add (f g : Nat → Int) : ∀ n : Nat, su (fun i => f i + g i) n = su f n + su g n
  | 0 => rfl
  | n + 1 => by show su (fun i => f i + g i) n + (f n + g n) = su f n + f n + (su g n + g n); rw [su_add f g n]; omega
theorem su_mul (c : Int) (f : Nat → Int) : ∀ n : Nat, su (fun i => c * f i) n = c * su f n
  | 0 => (Int.mul_zero c).symm
  | n + 1 => by show su (fun i => c * f i) n + c * f n = c * (su f n + f n); rw [su_mul c f n, Int.mul_add]
theorem su_le {f g : Nat → Int} : ∀ {n : Nat}, (∀ i, i < n → f i ≤ g i) → su f n ≤ su g n
  | 0, _ => Int.le_refl _
  | n + 1, h => by
    have := su_le (n := n) (fun i hi => h i (by omega))
    have := h n (by omega)
    show su f n + f n ≤ su g n + g n
    omega
theorem su_lt {f g : Nat → Int} : ∀ {n : Nat}, (∀ i, i < n → f i ≤ g i) → ∀ {i}, i < n → f i < g i → su f n < su g n
  | 0, _, i, hi, _ => absurd hi (Nat.not_lt_zero _)
  | n + 1, h, i, hi, hlt => by
    show su f n + f n < su g n + g n
    by_cases e : i = n
    · subst e
      have := su_le (n := i) (fun i hi => h i (by omega))
      omega
    · have := su_lt (n := n) (fun i hi => h i (by omega)) (i := i) (by omega) hlt
      have := h n (by omega)
      omega
theorem su_zero : ∀ {n : Nat} {f : Nat → Int}, (∀ i, i < n → f i = 0) → su f n = 0
  | 0, _, _ => rfl
  | n + 1, f, h => by show su f n + f n = 0; rw [su_zero fun i hi => h i (by omega), h n (by omega)]; rfl
theorem su_one {a : Nat} : ∀ {n : Nat}, a < n → su (fun i => if i = a then 1 else 0) n = 1
  | 0, h => absurd h (Nat.not_lt_zero _)
  | n + 1, h => by
    show su (fun i => if i = a then 1 else 0) n + (if n = a then 1 else 0) = 1
    by_cases e : n = a
    · subst e
      rw [su_zero (fun i hi => if_neg (by omega)), if_pos rfl]; rfl
    · rw [su_one (n := n) (by omega), if_neg e]; rfl
theorem su_mem {n : Nat} : ∀ {D : List Nat}, D.Nodup → (∀ a, a ∈ D → a < n) → su (fun i => if i ∈ D then 1 else 0) n = (D.length : Int)
  | [], _, _ => su_zero (fun i _ => if_neg (by simp))
  | a :: D, hd, hm => by
    have hd' := List.nodup_cons.1 hd
    have e : su (fun i => if i ∈ a :: D then 1 else 0) n = su (fun i => (if i = a then 1 else 0) + (if i ∈ D then 1 else 0)) n := su_congr fun i _ => by
      by_cases e1 : i = a
      · subst e1
        rw [if_pos (by simp), if_pos rfl, if_neg hd'.1]; rfl
      · by_cases e2 : i ∈ D
        · rw [if_pos (by simp [e2]), if_neg e1, if_pos e2]; rfl
        · rw [if_neg (by simp [e1, e2]), if_neg e1, if_neg e2]; rfl
    rw [e, su_add, su_one (hm a (by simp)), su_mem hd'.2 (fun b hb => hm b (by simp [hb]))]
    simp only [List.length_cons]
    omega
def gi (l : List Int) (i : Nat) : Int := l.getD i 0
theorem gi_at {l : List Int} {i : Nat} (h : i < l.length) : l[i]? = some (gi l i) := by simp [gi, h]
theorem gi_map {f : Nat → Int} {n i : Nat} (h : i < n) : gi ((List.range n).map f) i = f i := by simp [gi, List.getD, h]
theorem gi_set_same {l : List Int} {i : Nat} {v : Int} (h : i < l.length) : gi (l.set i v) i = v := by simp [gi, List.getD, h]
theorem gi_set_other {l : List Int} {i j : Nat} {v : Int} (h : i ≠ j) : gi (l.set i v) j = gi l j := by simp [gi, List.getD, h]
theorem gi_ext {l m : List Int} (h : l.length = m.length) (hg : ∀ i, i < l.length → gi l i = gi m i) : l = m := List.ext_getElem h fun i h1 h2 => by
  have := hg i h1
  simpa [gi, List.getD, h1, h2] using this
theorem sum_take (l : List Int) : ∀ k, k ≤ l.length → (l.take k).sum = su (gi l) k
  | 0, _ => by simp [su]
  | k + 1, h => by
    rw [List.take_succ_eq_append_getElem (by omega), List.sum_append, sum_take l k (by omega)]
    show _ + ([l[k]] : List Int).sum = su (gi l) k + gi l k
    simp [gi, List.getD, show k < l.length by omega]
theorem sum_su (l : List Int) : l.sum = su (gi l) l.length := by
  have := sum_take l l.length (Nat.le_refl _)
  rwa [List.take_length] at this
/-! the division -/
def wOf (l : List Int) : Int := max l.sum 1
def qq (t : Int) (l : List Int) (i : Nat) : Int := t * gi l i / wOf l
def rr (t : Int) (l : List Int) (i : Nat) : Int := t * gi l i % wOf l
def bef (t : Int) (l : List Int) (i j : Nat) : Prop := rr t l j < rr t l i ∨ (rr t l i = rr t l j ∧ i < j)
structure Wt (l : List Int) : Prop where
  len : l.length ≤ 64
  pos : ∀ i, i < l.length → 0 ≤ gi l i
  sum : l.sum ≤ 1125899906842624
structure ShareP (t : Int) (l x : List Int) : Prop where
  len : x.length = l.length
  sum : x.sum = t
  two : ∀ i, i < l.length → gi x i = qq t l i ∨ gi x i = qq t l i + 1
  ord : ∀ i j, i < l.length → j < l.length → gi x i = qq t l i + 1 → gi x j = qq t l j → bef t l i j
theorem wOf_pos (l : List Int) : 0 < wOf l := by unfold wOf; omega
theorem qr (t : Int) (l : List Int) (i : Nat) : t * gi l i = wOf l * qq t l i + rr t l i := (Int.mul_ediv_add_emod _ _).symm
theorem rr_nonneg (t : Int) (l : List Int) (i : Nat) : 0 ≤ rr t l i := Int.emod_nonneg _ (by have := wOf_pos l; omega)
theorem rr_lt (t : Int) (l : List Int) (i : Nat) : rr t l i < wOf l := Int.emod_lt_of_pos _ (wOf_pos l)
theorem Wt.nonneg {l : List Int} (h : Wt l) : 0 ≤ l.sum := by
  rw [sum_su]
  have := su_le (f := fun _ => 0) (g := gi l) (n := l.length) h.pos
  rw [su_zero (fun _ _ => rfl)] at this
  exact this
theorem Wt.le {l : List Int} (h : Wt l) {i : Nat} (hi : i < l.length) : gi l i ≤ l.sum := by
  rw [sum_su]
  have := su_le (f := fun j => if j = i then gi l i else 0) (g := gi l) (n := l.length) (fun j hj => by
    by_cases e : j = i
    · subst e; rw [if_pos rfl]; exact Int.le_refl _
    · rw [if_neg e]; exact h.pos j hj)
  have e : su (fun j => if j = i then gi l i else 0) l.length = gi l i * su (fun j => if j = i then 1 else 0) l.length := by
    rw [← su_mul]; exact su_congr fun j _ => by by_cases e : j = i <;> simp [e]
  rw [e, su_one hi, Int.mul_one] at this
  exact this
/-- the sum of the remainders -/
theorem su_rr {t : Int} {l : List Int} (h : l.sum ≥ 1) : su (rr t l) l.length = wOf l * (t - su (qq t l) l.length) := by
  have e1 : su (fun i => t * gi l i) l.length = su (fun i => wOf l * qq t l i + rr t l i) l.length := su_congr fun i _ => qr t l i
  rw [su_mul, su_add, su_mul, ← sum_su] at e1
  have e2 : wOf l = l.sum := by unfold wOf; omega
  rw [e2] at e1 ⊢
  rw [Int.mul_sub, Int.mul_comm l.sum t]
  omega
theorem extra_bounds {t : Int} {l : List Int} (h : l.sum ≥ 1) : 0 ≤ t - su (qq t l) l.length ∧ t - su (qq t l) l.length ≤ (l.length : Int) := by
  have e := su_rr (t := t) h
  have h0 := su_le (f := fun _ => 0) (g := rr t l) (n := l.length) (fun i _ => rr_nonneg t l i)
  rw [su_zero (fun _ _ => rfl)] at h0
  have h1 := su_le (f := rr t l) (g := fun _ => wOf l * 1) (n := l.length) (fun i _ => by have := rr_lt t l i; omega)
  rw [su_mul] at h1
  have e1 : ∀ n : Nat, su (fun _ => (1 : Int)) n = (n : Int) := fun n => by
    induction n with
    | zero => rfl
    | succ n ih => show su _ n + 1 = _; rw [ih]; omega
  rw [e1] at h1
  rw [e] at h0 h1
  have hw := wOf_pos l
  refine ⟨?_, Int.le_of_mul_le_mul_left h1 hw⟩
  by_cases hn : 0 ≤ t - su (qq t l) l.length
  · exact hn
  · have := Int.mul_neg_of_pos_of_neg hw (show t - su (qq t l) l.length < 0 by omega)
    omega
theorem bef_total {t : Int} {l : List Int} {i j : Nat} (h : i ≠ j) (hn : ¬ bef t l j i) : bef t l i j := by
  unfold bef at *
  omega
theorem bef_asymm {t : Int} {l : List Int} {i j : Nat} (h : bef t l i j) (h' : bef t l j i) : False := by
  unfold bef at *
  omega
/-- there is at most one division -/
theorem ShareP.unique {t : Int} {l x y : List Int} (hx : ShareP t l x) (hy : ShareP t l y) : x = y := by
  have sx : su (gi x) l.length = t := by rw [← hx.len, ← sum_su]; exact hx.sum
  have sy : su (gi y) l.length = t := by rw [← hy.len, ← sum_su]; exact hy.sum
  have key : ∀ (x y : List Int), ShareP t l x → ShareP t l y → su (gi x) l.length = su (gi y) l.length → ∀ i, i < l.length → ¬ gi y i < gi x i := by
    intro x y hx hy hs i hi hlt
    have hxi : gi x i = qq t l i + 1 := by have := hx.two i hi; have := hy.two i hi; omega
    have hyi : gi y i = qq t l i := by have := hx.two i hi; have := hy.two i hi; omega
    by_cases hj : ∃ j, j < l.length ∧ gi x j < gi y j
    · obtain ⟨j, hj, hlt2⟩ := hj
      have hxj : gi x j = qq t l j := by have := hx.two j hj; have := hy.two j hj; omega
      have hyj : gi y j = qq t l j + 1 := by have := hx.two j hj; have := hy.two j hj; omega
      exact bef_asymm (hx.ord i j hi hj hxi hxj) (hy.ord j i hj hi hyj hyi)
    · have := su_lt (f := gi y) (g := gi x) (n := l.length) (fun j hj' => by
        by_cases hc : gi y j ≤ gi x j
        · exact hc
        · exact absurd ⟨j, hj', by omega⟩ hj) hi hlt
      omega
  refine gi_ext (by rw [hx.len, hy.len]) fun i hi => ?_
  rw [hx.len] at hi
  have h1 := key x y hx hy (sx.trans sy.symm) i hi
  have h2 := key y x hy hx (sy.trans sx.symm) i hi
  omega
/-- the parts behind e more -/
def pts (t : Int) (l : List Int) (D : List Nat) : List Int := (List.range l.length).map fun i => qq t l i + if i ∈ D then 1 else 0
theorem pts_length (t : Int) (l : List Int) (D : List Nat) : (pts t l D).length = l.length := by simp [pts]
theorem pts_at {t : Int} {l : List Int} {D : List Nat} {i : Nat} (h : i < l.length) : gi (pts t l D) i = qq t l i + if i ∈ D then 1 else 0 := gi_map h
theorem pts_step {t : Int} {l : List Int} {d : List Nat} (hd : d.Perm (List.range l.length)) {k : Nat} (hk : k < d.length) :
    (pts t l (d.take k)).set d[k] (gi (pts t l (d.take k)) d[k] + 1) = pts t l (d.take (k + 1)) ∧ d[k] < l.length ∧ gi (pts t l (d.take k)) d[k] = qq t l d[k] := by
  have hlt : d[k] < l.length := List.mem_range.1 (hd.mem_iff.1 (List.getElem_mem hk))
  have hnd : d.Nodup := hd.nodup_iff.2 List.nodup_range
  have hn : d[k] ∉ d.take k := fun hc => by
    obtain ⟨j, hj, e⟩ := List.getElem_of_mem hc
    rw [List.length_take] at hj
    rw [List.getElem_take] at e
    exact List.pairwise_iff_getElem.1 hnd j k (by omega) hk (by omega) e
  have hv : gi (pts t l (d.take k)) d[k] = qq t l d[k] := by rw [pts_at hlt, if_neg hn, Int.add_zero]
  refine ⟨gi_ext (by simp [pts_length]) fun i hi => ?_, hlt, hv⟩
  rw [List.length_set, pts_length] at hi
  by_cases e : d[k] = i
  · subst e
    rw [gi_set_same (by rw [pts_length]; exact hlt), hv, pts_at hlt, if_pos (by rw [List.take_succ_eq_append_getElem hk]; exact List.mem_append_right _ (List.mem_singleton.2 rfl))]
  · rw [gi_set_other e, pts_at hi, pts_at hi]
    have : (i ∈ d.take (k + 1)) ↔ i ∈ d.take k := by
      rw [List.take_succ_eq_append_getElem hk, List.mem_append, List.mem_singleton]
      exact ⟨fun h => h.resolve_right fun h => e h.symm, .inl⟩
    simp only [this]
theorem share_sorted {t : Int} {l : List Int} {d : List Nat} (hd : d.Perm (List.range l.length)) (hs : ∀ a b (ha : a < d.length) (hb : b < d.length), a < b → ¬ bef t l d[b] d[a]) {e : Nat} (he : (e : Int) = t - su (qq t l) l.length) (hle : e ≤ l.length) :
    ShareP t l (pts t l (d.take e)) := by
  have hnd : d.Nodup := hd.nodup_iff.2 List.nodup_range
  have hdl : d.length = l.length := by rw [hd.length_eq, List.length_range]
  refine ⟨pts_length _ _ _, ?_, fun i hi => ?_, fun i j hi hj h1 h2 => ?_⟩
  · rw [sum_su, pts_length, su_congr (fun i hi => pts_at hi), su_add, su_mem (List.Nodup.sublist (List.take_sublist _ _) hnd) (fun a ha => List.mem_range.1 (hd.mem_iff.1 (List.mem_of_mem_take ha))), List.length_take]
    omega
  · rw [pts_at hi]
    by_cases hm : i ∈ d.take e
    · rw [if_pos hm]; exact .inr rfl
    · rw [if_neg hm]; exact .inl (Int.add_zero _)
  · rw [pts_at hi] at h1
    rw [pts_at hj] at h2
    have m1 : i ∈ d.take e := by
      by_cases hm : i ∈ d.take e
      · exact hm
      · rw [if_neg hm] at h1; omega
    have m2 : j ∉ d.take e := fun hm => by rw [if_pos hm] at h2; omega
    obtain ⟨a, ha, ea⟩ := List.getElem_of_mem m1
    obtain ⟨b, hb, eb⟩ := List.getElem_of_mem (hd.mem_iff.2 (List.mem_range.2 hj))
    rw [List.length_take] at ha
    rw [List.getElem_take] at ea
    have hbe : e ≤ b := by
      rcases Nat.lt_or_ge b e with hlt | hge
      · exact absurd (by rw [← eb]; exact List.mem_take_iff_getElem.2 ⟨b, by omega, rfl⟩) m2
      · exact hge
    have := hs a b (by omega) hb (by omega)
    rw [ea, eb] at this
    exact bef_total (fun e => m2 (e ▸ m1)) this
end Go.Proofs.YtngjakahanmepaaGreatDoor.Pw
