/- The contract of math/bits.Div64 and Rem64: the quotient and the remainder of a number of 128 bits. -/
import Derived.Test.YtafnmaojpheppaaBits
import Derived.Test.YtafnmaojpheppaaDiv
import Derived.Deep.QuietTactic
import Derived.BigQuiet
import Derived.Deep.CutBlock
import Derived.Deep.DeepCutAuto
import Derived.Deep.LoopGhost
namespace Go.Proofs.Ytafnmaojpheppaa
open Go.RowKit
set_option linter.unusedVariables false
set_option linter.unusedSimpArgs false

theorem ret_int2 {k l : IntKind} {a b c d : Int} (h : a = b) (h' : c = d) : Ending.returned (.tuple #[.int k a, .int l c]) = .returned (.tuple #[.int k b, .int l d]) := by rw [h, h']

set_option maxHeartbeats 1000000 in
theorem div64_zero (lo y : Nat) (h1 : lo < 18446744073709551616) (h2 : y < 18446744073709551616) (h3 : 0 < y) (w : World) :
    Calls Try.prog 45 #[.int .u64 0, .int .u64 lo, .int .u64 y] w fun e w' => e = .returned (.tuple #[.int .u64 ((lo / y : Nat) : Int), .int .u64 ((lo % y : Nat) : Int)]) ∧ ∃ n, w' = w.drewN n := by
  have hy : ((y : Int) == 0) = false := by simp; omega
  have hn : (1 : Int) ≤ (y : Int) := by omega
  have hle : decide ((y : Int) ≤ 0) = false := by simp; omega
  go_enter Try.func45, Try.ntmps45
  go_wp2
  go_quiet (fail)
  go_wp2
  go_ret2
  exact ⟨by
    have e : IntKind.u64.wrap ((lo : Int) / (y : Int)) = ((lo / y : Nat) : Int) := by
      rw [← Int.natCast_ediv]
      exact Mu.wrapN _ (Nat.lt_of_le_of_lt (Nat.div_le_self _ _) h1)
    have e2 : (lo : Int) % (y : Int) = ((lo % y : Nat) : Int) := (Int.natCast_emod _ _).symm
    exact ret_int2 e e2, _, rfl⟩

set_option maxHeartbeats 4000000 in
set_option maxRecDepth 100000 in
theorem div64_core (hi lo y s yy y1 y0 u u10 d1 d0 q p Q1 a1 a2 a3 u21 q2 p2 Q0 b1 b2 b3 kk rem : Nat) (h0 : 0 < hi) (h2 : y < 18446744073709551616) (h3 : hi < y) (hs : 64 - (Lib.bitLen y : Int) = (s : Int)) (hs64 : s < 64)
    (e1 : IntKind.u64.wrap ((y : Int) * 2 ^ s) = (yy : Int)) (e2 : (yy : Int) / 4294967296 = (y1 : Int)) (e3 : bits .and .u64 (yy : Int) 4294967295 = (y0 : Int)) (hy1 : 2147483648 ≤ y1) (hy2 : y1 < 4294967296) (hy0 : y0 < 4294967296)
    (e4 : bits .or .u64 (IntKind.u64.wrap ((hi : Int) * 2 ^ s)) ((lo : Int) / 2 ^ (64 - s)) = (u : Int)) (e5 : IntKind.u64.wrap ((lo : Int) * 2 ^ s) = (u10 : Int)) (e6 : (u10 : Int) / 4294967296 = (d1 : Int)) (e7 : bits .and .u64 (u10 : Int) 4294967295 = (d0 : Int))
    (hd1 : d1 < 4294967296) (hd0 : d0 < 4294967296)
    (e8 : IntKind.u64.wrap ((u : Int) / (y1 : Int)) = (q : Int)) (e9 : IntKind.u64.wrap ((q : Int) * (y1 : Int)) = (p : Int)) (hp : p ≤ u) (hpr : u - p < 4294967296) (hu : u < 18446744073709551616)
    (A1 : Dv.At y1 y0 u d1 q (u - p)) (hlt : u < y1 * 4294967296 + y0) (hQ1 : ∀ a b, Dv.At y1 y0 u d1 a b → (a * y0 ≤ 4294967296 * b + d1 ∨ a ≤ 4294967296 ∧ 4294967296 ≤ b) → a = Q1)
    (e11 : IntKind.u64.wrap ((u : Int) * 4294967296) = (a1 : Int)) (e12 : IntKind.u64.wrap ((a1 : Int) + (d1 : Int)) = (a2 : Int)) (e13 : IntKind.u64.wrap ((Q1 : Int) * (yy : Int)) = (a3 : Int)) (e14 : IntKind.u64.wrap ((a2 : Int) - (a3 : Int)) = (u21 : Int))
    (e15 : IntKind.u64.wrap ((u21 : Int) / (y1 : Int)) = (q2 : Int)) (e16 : IntKind.u64.wrap ((q2 : Int) * (y1 : Int)) = (p2 : Int)) (hp2 : p2 ≤ u21) (hpr2 : u21 - p2 < 4294967296) (hu21 : u21 < 18446744073709551616)
    (A2 : Dv.At y1 y0 u21 d0 q2 (u21 - p2)) (hlt2 : u21 < y1 * 4294967296 + y0) (hQ2 : ∀ a b, Dv.At y1 y0 u21 d0 a b → (a * y0 ≤ 4294967296 * b + d0 ∨ a ≤ 4294967296 ∧ 4294967296 ≤ b) → a = Q0)
    (hQ1b : Q1 < 4294967296) (hQ0b : Q0 < 4294967296)
    (e17 : IntKind.u64.wrap ((u21 : Int) * 4294967296) = (b1 : Int)) (e18 : IntKind.u64.wrap ((b1 : Int) + (d0 : Int)) = (b2 : Int)) (e19 : IntKind.u64.wrap ((Q0 : Int) * (yy : Int)) = (b3 : Int)) (e20 : IntKind.u64.wrap ((b2 : Int) - (b3 : Int)) = (kk : Int)) (e21 : (kk : Int) / 2 ^ s = (rem : Int))
    (w : World) :
    Calls Try.prog 45 #[.int .u64 hi, .int .u64 lo, .int .u64 y] w fun e w' => e = .returned (.tuple #[.int .u64 ((Q1 * 4294967296 + Q0 : Nat) : Int), .int .u64 (rem : Int)]) ∧ w = w' := by
  have hy : ((y : Int) == 0) = false := beq_eq_false_iff_ne.2 (by omega)
  have hh : ((hi : Int) == 0) = false := beq_eq_false_iff_ne.2 (by omega)
  have hle : decide ((y : Int) ≤ (hi : Int)) = false := decide_eq_false (by omega)
  have L := lz64_any y w (by omega) (by omega) (by rw [Int.toNat_natCast]; omega)
  rw [Int.toNat_natCast, hs] at L
  have HL := Lib.hid L
  have HA1 := Lib.hid A1
  have HQ1 := Lib.hid hQ1
  have LTd1 := Lib.hid hlt
  have HA2 := Lib.hid A2
  have HQ2 := Lib.hid hQ2
  have LTd0 := Lib.hid hlt2
  clear L hs A1 hQ1 hlt A2 hQ2 hlt2
  go_enter Try.func45, Try.ntmps45
  go_upto_block 0 with (go_at_call 46; refine HL.out.mono ?_; rintro e w' ⟨rfl, rfl⟩)
  go_cut [15] (fun s15 wx => s15 = .int .u64 (Q1 : Int) ∧ w = wx)
  case first =>
    go_wp2_with fail
    go_loopg [15, 16] 4294967296 (fun k s15 s16 wr => ∃ a b : Nat, s15 = .int .u64 (a : Int) ∧ s16 = .int .u64 (b : Int) ∧ Hid (Dv.At y1 y0 u d1 a b) ∧ b < 4294967296 ∧ Hid (4294967296 ≤ b + k) ∧ w = wr)
    case atStart => exact ⟨q, u - p, rfl, by rw [Int.ofNat_sub hp], HA1, hpr, Lib.hid (by omega), rfl⟩
    case round =>
      obtain ⟨a, b, rfl, rfl, HA, hb, hk, rfl⟩ := hrel
      have hcap := HA.out.cap
      have hm : IntKind.u64.wrap ((a : Int) * (y0 : Int)) = ((a * y0 : Nat) : Int) := by
        rw [← Int.natCast_mul]
        exact Mu.wrapN (a * y0) (Nat.lt_of_le_of_lt (Nat.mul_le_mul hcap (Nat.le_of_lt_succ hy0)) (by unfold Dv.B; omega))
      have hq := fun h => HQ1.out a b HA.out (.inl h)
      have hb2 := fun h => HQ1.out (a - 1) (b + y1) h
      have hstep := Dv.step (q := a) (r := b) LTd1.out hd1 HA.out
      generalize a * y0 = m at hm hq hstep
      have Hq := Lib.hid hq
      have Hb2 := Lib.hid hb2
      have Hstep := Lib.hid hstep
      clear hq hstep hcap hb2
      have goOn : (4294967296 ≤ a ∨ 4294967296 * b + d1 < m) → Dv.At y1 y0 u d1 (a - 1) (b + y1) ∧ 1 ≤ a ∧ a - 1 ≤ 4294967296 := Hstep.out
      have HgoOn := Lib.hid goOn
      clear goOn Hstep
      by_cases hc1 : 4294967296 ≤ a
      · have t1 : decide ((4294967296 : Int) ≤ (a : Int)) = true := decide_eq_true (by omega)
        obtain ⟨g1, g2, g3⟩ := HgoOn.out (.inl hc1)
        have HG := Lib.hid g1
        clear g1
        by_cases hr : 4294967296 ≤ b + y1
        · have t3 : decide ((4294967296 : Int) ≤ (b : Int) + (y1 : Int)) = true := decide_eq_true (by omega)
          have hQ := Hb2.out HG.out (.inr ⟨g3, hr⟩)
          have HQ := Lib.hid hQ
          clear hQ
          go_wp2_with fail
          go_meet
          exact ⟨by rw [← HQ.out, Int.ofNat_sub g2]; rfl, rfl⟩
        · have t3 : decide ((4294967296 : Int) ≤ (b : Int) + (y1 : Int)) = false := decide_eq_false (by omega)
          go_wp2_with fail
          go_roundg (4294967296 - (b + y1))
          case measure => have := hk.out; omega
          case rel => exact ⟨a - 1, b + y1, by rw [Int.ofNat_sub g2]; rfl, by rw [Int.natCast_add], HG, by omega, Lib.hid (by omega), rfl⟩
      · have t1 : decide ((4294967296 : Int) ≤ (a : Int)) = false := decide_eq_false (by omega)
        by_cases hc2 : 4294967296 * b + d1 < m
        · have t2 : decide (4294967296 * (b : Int) + (d1 : Int) < (m : Int)) = true := decide_eq_true (by omega)
          obtain ⟨g1, g2, g3⟩ := HgoOn.out (.inr hc2)
          have HG := Lib.hid g1
          clear g1
          by_cases hr : 4294967296 ≤ b + y1
          · have t3 : decide ((4294967296 : Int) ≤ (b : Int) + (y1 : Int)) = true := decide_eq_true (by omega)
            have hQ := Hb2.out HG.out (.inr ⟨g3, hr⟩)
            have HQ := Lib.hid hQ
            clear hQ
            go_wp2_with fail
            go_meet
            exact ⟨by rw [← HQ.out, Int.ofNat_sub g2]; rfl, rfl⟩
          · have t3 : decide ((4294967296 : Int) ≤ (b : Int) + (y1 : Int)) = false := decide_eq_false (by omega)
            go_wp2_with fail
            go_roundg (4294967296 - (b + y1))
            case measure => have := hk.out; omega
            case rel => exact ⟨a - 1, b + y1, by rw [Int.ofNat_sub g2]; rfl, by rw [Int.natCast_add], HG, by omega, Lib.hid (by omega), rfl⟩
        · have t2 : decide (4294967296 * (b : Int) + (d1 : Int) < (m : Int)) = false := decide_eq_false (by omega)
          have hQ := Hq.out (by omega)
          have HQ := Lib.hid hQ
          clear hQ
          go_wp2_with fail
          go_meet
          exact ⟨by rw [← HQ.out], rfl⟩
  case rest =>
    obtain ⟨rfl, rfl⟩ := hcut
    go_upto_block 2 with (fail)
    go_cut [18] (fun s18 wx => s18 = .int .u64 (Q0 : Int) ∧ w = wx)
    case first =>
      go_wp2_with fail
      go_loopg [18, 16] 4294967296 (fun k s18 s16 wr => ∃ a b : Nat, s18 = .int .u64 (a : Int) ∧ s16 = .int .u64 (b : Int) ∧ Hid (Dv.At y1 y0 u21 d0 a b) ∧ b < 4294967296 ∧ Hid (4294967296 ≤ b + k) ∧ w = wr)
      case atStart => exact ⟨q2, u21 - p2, rfl, by rw [Int.ofNat_sub hp2], HA2, hpr2, Lib.hid (by omega), rfl⟩
      case round =>
        obtain ⟨a, b, rfl, rfl, HA, hb, hk, rfl⟩ := hrel
        have hcap := HA.out.cap
        have hm : IntKind.u64.wrap ((a : Int) * (y0 : Int)) = ((a * y0 : Nat) : Int) := by
          rw [← Int.natCast_mul]
          exact Mu.wrapN (a * y0) (Nat.lt_of_le_of_lt (Nat.mul_le_mul hcap (Nat.le_of_lt_succ hy0)) (by unfold Dv.B; omega))
        have hq := fun h => HQ2.out a b HA.out (.inl h)
        have hb2 := fun h => HQ2.out (a - 1) (b + y1) h
        have hstep := Dv.step (q := a) (r := b) LTd0.out hd0 HA.out
        generalize a * y0 = m at hm hq hstep
        have Hq := Lib.hid hq
        have Hb2 := Lib.hid hb2
        have Hstep := Lib.hid hstep
        clear hq hstep hcap hb2
        have goOn : (4294967296 ≤ a ∨ 4294967296 * b + d0 < m) → Dv.At y1 y0 u21 d0 (a - 1) (b + y1) ∧ 1 ≤ a ∧ a - 1 ≤ 4294967296 := Hstep.out
        have HgoOn := Lib.hid goOn
        clear goOn Hstep
        by_cases hc1 : 4294967296 ≤ a
        · have t1 : decide ((4294967296 : Int) ≤ (a : Int)) = true := decide_eq_true (by omega)
          obtain ⟨g1, g2, g3⟩ := HgoOn.out (.inl hc1)
          have HG := Lib.hid g1
          clear g1
          by_cases hr : 4294967296 ≤ b + y1
          · have t3 : decide ((4294967296 : Int) ≤ (b : Int) + (y1 : Int)) = true := decide_eq_true (by omega)
            have hQ := Hb2.out HG.out (.inr ⟨g3, hr⟩)
            have HQ := Lib.hid hQ
            clear hQ
            go_wp2_with fail
            go_meet
            exact ⟨by rw [← HQ.out, Int.ofNat_sub g2]; rfl, rfl⟩
          · have t3 : decide ((4294967296 : Int) ≤ (b : Int) + (y1 : Int)) = false := decide_eq_false (by omega)
            go_wp2_with fail
            go_roundg (4294967296 - (b + y1))
            case measure => have := hk.out; omega
            case rel => exact ⟨a - 1, b + y1, by rw [Int.ofNat_sub g2]; rfl, by rw [Int.natCast_add], HG, by omega, Lib.hid (by omega), rfl⟩
        · have t1 : decide ((4294967296 : Int) ≤ (a : Int)) = false := decide_eq_false (by omega)
          by_cases hc2 : 4294967296 * b + d0 < m
          · have t2 : decide (4294967296 * (b : Int) + (d0 : Int) < (m : Int)) = true := decide_eq_true (by omega)
            obtain ⟨g1, g2, g3⟩ := HgoOn.out (.inr hc2)
            have HG := Lib.hid g1
            clear g1
            by_cases hr : 4294967296 ≤ b + y1
            · have t3 : decide ((4294967296 : Int) ≤ (b : Int) + (y1 : Int)) = true := decide_eq_true (by omega)
              have hQ := Hb2.out HG.out (.inr ⟨g3, hr⟩)
              have HQ := Lib.hid hQ
              clear hQ
              go_wp2_with fail
              go_meet
              exact ⟨by rw [← HQ.out, Int.ofNat_sub g2]; rfl, rfl⟩
            · have t3 : decide ((4294967296 : Int) ≤ (b : Int) + (y1 : Int)) = false := decide_eq_false (by omega)
              go_wp2_with fail
              go_roundg (4294967296 - (b + y1))
              case measure => have := hk.out; omega
              case rel => exact ⟨a - 1, b + y1, by rw [Int.ofNat_sub g2]; rfl, by rw [Int.natCast_add], HG, by omega, Lib.hid (by omega), rfl⟩
          · have t2 : decide (4294967296 * (b : Int) + (d0 : Int) < (m : Int)) = false := decide_eq_false (by omega)
            have hQ := Hq.out (by omega)
            have HQ := Lib.hid hQ
            clear hQ
            go_wp2_with fail
            go_meet
            exact ⟨by rw [← HQ.out], rfl⟩
    case rest =>
      obtain ⟨rfl, rfl⟩ := hcut
      go_wp2_with fail
      go_ret2
      exact ⟨ret_int2 (by rw [Int.natCast_add, Int.natCast_mul]; rfl) rfl, rfl⟩

theorem bitLenAux_spec : ∀ (f x : Nat), x < 2 ^ f → x < 2 ^ Lib.bitLenAux f x ∧ (x ≠ 0 → 2 ^ Lib.bitLenAux f x ≤ 2 * x) ∧ Lib.bitLenAux f x ≤ f
  | 0, x, h => by
    have : x = 0 := by simpa using h
    simp [this, Lib.bitLenAux]
  | f + 1, x, h => by
    unfold Lib.bitLenAux
    by_cases hx : x = 0
    · simp [hx]
    · rw [if_neg hx]
      obtain ⟨i1, i2, i3⟩ := bitLenAux_spec f (x / 2) (by rw [Nat.pow_succ] at h; omega)
      rw [Nat.add_comm 1, Nat.pow_succ]
      refine ⟨by omega, fun _ => ?_, by omega⟩
      by_cases h2 : x / 2 = 0
      · have e : Lib.bitLenAux f (x / 2) = 0 := by
          rw [h2]
          cases f <;> simp [Lib.bitLenAux]
        rw [e]
        omega
      · have := i2 h2
        omega
theorem bitLen_spec (x : Nat) (h : x < 18446744073709551616) (h0 : x ≠ 0) : x < 2 ^ Lib.bitLen x ∧ 2 ^ Lib.bitLen x ≤ 2 * x ∧ Lib.bitLen x ≤ 64 := by
  obtain ⟨a, b, c⟩ := bitLenAux_spec 64 x (by omega)
  exact ⟨a, b h0, c⟩

theorem pow_cast (s : Nat) : ((2 : Int) ^ s) = ((2 ^ s : Nat) : Int) := by rw [Int.natCast_pow]; rfl

theorem shift_or {a s b : Nat} (hb : b < 2 ^ s) : a * 2 ^ s ||| b = a * 2 ^ s + b := by
  rw [Nat.mul_comm, Nat.two_pow_add_eq_or_of_lt hb]

theorem step_nums (y1 y0 u d : Nat) (h1 : 2147483648 ≤ y1) (h1' : y1 < 4294967296) (h0 : y0 < 4294967296) (hd : d < 4294967296) (hu : u < y1 * 4294967296 + y0) :
    ∃ q p Q a1 a2 a3 v : Nat, IntKind.u64.wrap ((u : Int) / (y1 : Int)) = (q : Int) ∧ IntKind.u64.wrap ((q : Int) * (y1 : Int)) = (p : Int) ∧ p ≤ u ∧ u - p < 4294967296 ∧ u < 18446744073709551616 ∧
      Dv.At y1 y0 u d q (u - p) ∧ (∀ a b, Dv.At y1 y0 u d a b → (a * y0 ≤ 4294967296 * b + d ∨ a ≤ 4294967296 ∧ 4294967296 ≤ b) → a = Q) ∧ Q < 4294967296 ∧
      IntKind.u64.wrap ((u : Int) * 4294967296) = (a1 : Int) ∧ IntKind.u64.wrap ((a1 : Int) + (d : Int)) = (a2 : Int) ∧ IntKind.u64.wrap ((Q : Int) * ((y1 * 4294967296 + y0 : Nat) : Int)) = (a3 : Int) ∧ IntKind.u64.wrap ((a2 : Int) - (a3 : Int)) = (v : Int) ∧
      Q = (u * 4294967296 + d) / (y1 * 4294967296 + y0) ∧ v = (u * 4294967296 + d) % (y1 * 4294967296 + y0) ∧ v < y1 * 4294967296 + y0 := by
  have hy : 0 < y1 * 4294967296 + y0 := by omega
  have hdm := Nat.div_add_mod (u * 4294967296 + d) (y1 * 4294967296 + y0)
  have hml := Nat.mod_lt (u * 4294967296 + d) hy
  have hq64 : u / y1 < 18446744073709551616 := Nat.lt_of_le_of_lt (Nat.div_le_self _ _) (by omega)
  have hqy : u / y1 * y1 ≤ u := Nat.div_mul_le_self u y1
  have hmod := Nat.mod_lt u (show 0 < y1 by omega)
  have hdm2 := Nat.div_add_mod u y1
  have hQ : (u * 4294967296 + d) / (y1 * 4294967296 + y0) < 4294967296 := by
    rw [Nat.div_lt_iff_lt_mul hy, Nat.mul_comm 4294967296]
    have : (u + 1) * 4294967296 ≤ (y1 * 4294967296 + y0) * 4294967296 := Nat.mul_le_mul_right _ hu
    rw [Nat.add_mul] at this
    omega
  refine ⟨u / y1, u / y1 * y1, (u * 4294967296 + d) / (y1 * 4294967296 + y0), u * 4294967296 % 18446744073709551616, (u * 4294967296 % 18446744073709551616 + d) % 18446744073709551616,
    (u * 4294967296 + d) / (y1 * 4294967296 + y0) * (y1 * 4294967296 + y0) % 18446744073709551616, (u * 4294967296 + d) % (y1 * 4294967296 + y0), ?_, ?_, hqy, ?_, by omega, Dv.start h1 h0 hd hu, ?_, hQ, ?_, ?_, ?_, ?_, rfl, rfl, hml⟩
  · rw [← Int.natCast_ediv]; exact Mu.wrapN _ hq64
  · rw [← Int.natCast_mul]; exact Mu.wrapN _ (by omega)
  · rw [Nat.mul_comm]; omega
  · intro a b A h
    rcases h with h | ⟨h, h'⟩
    · exact Dv.stop h1 A h
    · exact Dv.brk h1 h0 A h h'
  · rw [IntKind.wrap_u64]; omega
  · rw [IntKind.wrap_u64]; omega
  · rw [← Int.natCast_mul]; exact Mu.wrapM _
  · rw [IntKind.wrap_u64]
    exact Dv.wrap_rem u d _ _ (by rw [Nat.mul_comm]; exact hdm) (Nat.lt_of_lt_of_le hml (by omega))

set_option maxHeartbeats 1000000 in
theorem div64_pos (hi lo y : Nat) (h0 : 0 < hi) (h1 : lo < 18446744073709551616) (h2 : y < 18446744073709551616) (h3 : hi < y) (w : World) :
    Calls Try.prog 45 #[.int .u64 hi, .int .u64 lo, .int .u64 y] w fun e w' => e = .returned (.tuple #[.int .u64 (((hi * 18446744073709551616 + lo) / y : Nat) : Int), .int .u64 (((hi * 18446744073709551616 + lo) % y : Nat) : Int)]) ∧ w = w' := by
  obtain ⟨n1, n2, n3⟩ := bitLen_spec y h2 (by omega)
  obtain ⟨s, hs⟩ : ∃ s : Nat, s = 64 - Lib.bitLen y := ⟨_, rfl⟩
  have hn1 : Lib.bitLen y ≠ 0 := by
    intro e
    rw [e] at n1
    omega
  have hK : 0 < 2 ^ s := Nat.two_pow_pos s
  have hKK : 2 ^ Lib.bitLen y * 2 ^ s = 18446744073709551616 := by rw [← Nat.pow_add, show Lib.bitLen y + s = 64 from by omega]
  have hKs : 2 ^ (64 - s) * 2 ^ s = 18446744073709551616 := by rw [← Nat.pow_add, show 64 - s + s = 64 from by omega]
  have hyl : 9223372036854775808 ≤ y * 2 ^ s := by
    have := Nat.mul_le_mul_right (2 ^ s) n2
    rw [hKK, Nat.mul_assoc] at this
    omega
  have hyu : y * 2 ^ s < 18446744073709551616 := by rw [← hKK]; exact Nat.mul_lt_mul_of_pos_right n1 hK
  have hlo : lo / 2 ^ (64 - s) < 2 ^ s := by rw [Nat.div_lt_iff_lt_mul (Nat.two_pow_pos _), Nat.mul_comm, hKs]; exact h1
  have hhi : (hi + 1) * 2 ^ s ≤ y * 2 ^ s := Nat.mul_le_mul_right _ h3
  rw [Nat.add_mul, Nat.one_mul] at hhi
  have hu10 : lo * 2 ^ s = lo / 2 ^ (64 - s) * 18446744073709551616 + lo * 2 ^ s % 18446744073709551616 := by
    have e : lo * 2 ^ s / 18446744073709551616 = lo / 2 ^ (64 - s) := by rw [← hKs, Nat.mul_div_mul_right _ _ hK]
    have := Nat.div_add_mod' (lo * 2 ^ s) 18446744073709551616
    rw [e] at this
    omega
  have hyy : y * 2 ^ s / 4294967296 * 4294967296 + y * 2 ^ s % 4294967296 = y * 2 ^ s := Nat.div_add_mod' _ _
  obtain ⟨q, p, Q1, a1, a2, a3, u21, e8, e9, hp, hpr, hu, A1, hQ1, hQ1b, e11, e12, e13, e14, k1, k2, k3⟩ := step_nums (y * 2 ^ s / 4294967296) (y * 2 ^ s % 4294967296) (hi * 2 ^ s + lo / 2 ^ (64 - s)) (lo * 2 ^ s % 18446744073709551616 / 4294967296) (by omega) (by omega) (by omega) (by omega) (by rw [hyy]; omega)
  obtain ⟨q2, p2, Q0, b1, b2, b3, kk, e15, e16, hp2, hpr2, hu21, A2, hQ2, hQ0b, e17, e18, e19, e20, k4, k5, k6⟩ := step_nums (y * 2 ^ s / 4294967296) (y * 2 ^ s % 4294967296) u21 (lo * 2 ^ s % 18446744073709551616 % 4294967296) (by omega) (by omega) (by omega) (by omega) k3
  have hw := Dv.whole (hi := hi) (lo := lo) (y := y) (k := kk) (u32 := hi * 2 ^ s + lo / 2 ^ (64 - s)) (u10 := lo * 2 ^ s % 18446744073709551616) (q1 := Q1) (u21 := u21) (q0 := Q0) (2 ^ s) hK
    (Dv.shift_sum hu10)
    (by rw [k1, hyy]) (by rw [k2, hyy]) (by rw [k4, hyy]) (by rw [k5, hyy]) (by omega)
  obtain ⟨w1, w2⟩ := hw
  have e21 : (kk : Int) / 2 ^ s = (((hi * 18446744073709551616 + lo) % y : Nat) : Int) := by
    rw [pow_cast, ← Int.natCast_ediv, w2, Nat.mul_div_cancel _ hK]
  rw [hyy] at e13 e19
  have hc := div64_core hi lo y s (y * 2 ^ s) (y * 2 ^ s / 4294967296) (y * 2 ^ s % 4294967296) (hi * 2 ^ s + lo / 2 ^ (64 - s)) (lo * 2 ^ s % 18446744073709551616) (lo * 2 ^ s % 18446744073709551616 / 4294967296) (lo * 2 ^ s % 18446744073709551616 % 4294967296)
    q p Q1 a1 a2 a3 u21 q2 p2 Q0 b1 b2 b3 kk ((hi * 18446744073709551616 + lo) % y) h0 h2 h3 (by omega) (by omega)
    (by rw [pow_cast, ← Int.natCast_mul]; exact Mu.wrapN _ hyu) (by omega) (Mu.maskN _ hyu) (by omega) (by omega) (by omega)
    (by
      rw [pow_cast, pow_cast, ← Int.natCast_mul, ← Int.natCast_ediv, Mu.wrapN _ (by omega), bits_or_u64_nat _ _ (by omega) (by omega), shift_or hlo])
    (by rw [pow_cast, ← Int.natCast_mul]; exact Mu.wrapM _) (by omega) (Mu.maskN _ (by omega)) (by omega) (by omega) e8 e9 hp hpr hu A1 (by rw [hyy]; omega) hQ1 e11 e12 e13 e14 e15 e16 hp2 hpr2 hu21 A2 k3 hQ2 hQ1b hQ0b e17 e18 e19 e20 e21 w
  rw [show Q1 * 4294967296 + Q0 = (hi * 18446744073709551616 + lo) / y from w1] at hc
  exact hc

theorem div64_any (hi lo y : Nat) (h1 : lo < 18446744073709551616) (h2 : y < 18446744073709551616) (h3 : hi < y) (w : World) :
    Calls Try.prog 45 #[.int .u64 hi, .int .u64 lo, .int .u64 y] w fun e w' => e = .returned (.tuple #[.int .u64 (((hi * 18446744073709551616 + lo) / y : Nat) : Int), .int .u64 (((hi * 18446744073709551616 + lo) % y : Nat) : Int)]) ∧ ∃ n, w' = w.drewN n := by
  rcases Nat.eq_zero_or_pos hi with rfl | h0
  · refine (div64_zero lo y h1 h2 (by omega) w).mono ?_
    rintro e w' ⟨rfl, h⟩
    exact ⟨by rw [Nat.zero_mul, Nat.zero_add], h⟩
  · refine (div64_pos hi lo y h0 h1 h2 h3 w).mono ?_
    rintro e w' ⟨rfl, rfl⟩
    exact ⟨rfl, 0, rfl⟩

end Go.Proofs.Ytafnmaojpheppaa
