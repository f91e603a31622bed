/- bourneref17: Total, At, Add. -/
import Derived.Test.YthbjechgdjcogaaPoolI
import Derived.Test.YthbjechgdjcogaaRefA
namespace Go.Proofs.Ythbjechgdjcogaa
open Go.RowKit
set_option linter.unusedVariables false
set_option linter.unusedSimpArgs false

/-! Total -/
set_option maxHeartbeats 4000000 in
set_option maxRecDepth 100000 in
theorem reftotal_any (A : Option Addr) (c : Nat) (p : List Int) (hn : p.length ≤ 9223372036854775807) (hf : ∀ i, i < p.length → Fit (gi p i)) (w : World) (hr : Rd w A (ints p)) :
    Calls Try.prog 34 #[.slice A p.length c] w fun e w' => e = .returned (.int .i64 (tot p p.length)) ∧ Below w.heap.size w w' := by
  have HR := Lib.hid hr
  have HF := Lib.hid hf
  clear hr hf
  go_enter Try.func34, Try.ntmps34
  go_wp2_with fail
  go_loopw [3, 4] (fun s3 s4 wr => ToR w p s3 s4 wr) (fun _ i _ => p.length - (intOf i).toNat)
  case atStart => exact ⟨0, by omega, rfl, rfl, ⟨w, Below.refl _ _⟩, rfl⟩
  case round =>
    obtain ⟨k, hk, rfl, rfl, y, rfl⟩ := hrel
    by_cases hlt : k < p.length
    · have i3 : decide ((k : Int) < (p.length : Int)) = true := decide_eq_true (by omega)
      obtain ⟨ad, u, rfl, hadb, e1, e2⟩ := (HR.out.bel y).at (k := k) (by rw [ints_length]; exact hlt)
      rw [ints_at hlt] at e1
      cases e1
      have j1 : (0 : Int) ≤ (k : Int) := by omega
      have j2 : (k : Int) < (p.length : Int) := by omega
      obtain ⟨T', hT'⟩ : ∃ v, tot p (k + 1) = v := ⟨_, rfl⟩
      have hT2 : Xa.add (tot p k) (gi p k) = T' := hT'
      have f1 := tot_fit p k
      have f2 := HF.out k hlt
      have HZ := Lib.hid hT'
      obtain ⟨v, hv⟩ : ∃ v, gi p k = v := ⟨_, rfl⟩
      obtain ⟨T, hT⟩ : ∃ v, tot p k = v := ⟨_, rfl⟩
      rw [hv] at e2 f2 hT2
      rw [hT] at f1 hT2 ⊢
      have C := Lib.hid (fun u : BelW w => bel_of_same (x := u) (v := .int .i64 T') (by have h' := refadd_any T v f1.1 f1.2 f2.1 f2.2 u.w; rw [hT2] at h'; exact h'))
      clear hv hT hT' hT2 f1 f2
      go_wp2_with (first | (go_at_call 35; with_reducible refine (C.out _).mono ?_; rintro e w' ⟨rfl, yy, rfl⟩))
      go_roundw
      case rel => exact ⟨k + 1, by omega, by go_num, by rw [HZ.out], _, rfl⟩
      case measure => simp [intOf]; omega
    · have i3 : decide ((k : Int) < (p.length : Int)) = false := decide_eq_false (by omega)
      obtain rfl : k = p.length := by omega
      have hB : Below w.heap.size w y.w := y.2
      go_wp2_with fail
      go_ret
      exact ⟨rfl, hB⟩

/-! At -/
def atI (p : List Int) (i : Int) : Int := if 0 ≤ i ∧ i < (p.length : Int) then gi p i.toNat else 0
theorem atI_nat (p : List Int) (k : Nat) : atI p (k : Int) = gi p k := by
  unfold atI
  by_cases h : k < p.length
  · rw [if_pos ⟨by omega, by omega⟩, Int.toNat_natCast]
  · rw [if_neg (by omega), gi_out (by omega)]
set_option maxHeartbeats 4000000 in
theorem refat_any (A : Option Addr) (c : Nat) (p : List Int) (i : Int) (hn : p.length ≤ 9223372036854775807) (w : World) (hr : Rd w A (ints p)) :
    Calls Try.prog 43 #[.slice A p.length c, .int .i64 i] w fun e w' => e = .returned (.int .i64 (atI p i)) ∧ w = w' := by
  by_cases h1 : i < 0
  · have t1 : decide (i < 0) = true := decide_eq_true h1
    have e : atI p i = 0 := by unfold atI; rw [if_neg (by omega)]
    rw [e]
    clear hr
    go_enter Try.func43, Try.ntmps43
    go_wp2_with fail
    go_ret
    exact ⟨rfl, rfl⟩
  have t1 : decide (i < 0) = false := decide_eq_false h1
  by_cases h2 : (p.length : Int) ≤ i
  · have t2 : decide ((p.length : Int) ≤ i) = true := decide_eq_true h2
    have e : atI p i = 0 := by unfold atI; rw [if_neg (by omega)]
    rw [e]
    clear hr
    go_enter Try.func43, Try.ntmps43
    go_wp2_with fail
    go_ret
    exact ⟨rfl, rfl⟩
  obtain ⟨k, rfl⟩ := Int.eq_ofNat_of_zero_le (show 0 ≤ i by omega)
  have t2 : decide ((p.length : Int) ≤ (k : Int)) = false := decide_eq_false h2
  have hk : k < p.length := by omega
  obtain ⟨ad, u, rfl, _, e1, e2⟩ := hr.at (k := k) (by rw [ints_length]; exact hk)
  rw [ints_at hk] at e1
  cases e1
  have j1 : (0 : Int) ≤ (k : Int) := by omega
  have j2 : (k : Int) < (p.length : Int) := by omega
  rw [atI_nat]
  clear hr
  go_enter Try.func43, Try.ntmps43
  go_wp2_with fail
  go_ret
  exact ⟨rfl, rfl⟩

theorem own_shape {w : World} {B : Nat} {e : TypeId} {v : Value} {n : Nat} {xs : List Int} (h : w.ownsRow B e 1 v n (ints xs)) : ∃ A c, v = .slice A n c ∧ Rd w A (ints xs) := by
  by_cases hn : 0 < n
  · obtain ⟨g, cap, rfl, hb, hl⟩ := h.form hn
    exact ⟨_, _, rfl, fun _ => ⟨⟨g, 0, none⟩, rfl, hl, fun j u hu => h.cells (g := g) rfl j u hu⟩⟩
  · have hl : (ints xs).length = 0 := by have := h.1; omega
    have hr : ∀ A, Rd w A (ints xs) := fun A h0 => by omega
    rcases h.2 with ⟨rfl, rfl⟩ | ⟨g, cap, cur, rfl, _⟩
    · exact ⟨_, _, rfl, hr _⟩
    · exact ⟨_, _, rfl, hr _⟩
theorem gl_snoc (n : Nat) (f : Nat → Int) : ints (gl (n + 1) f) = ints (gl n f) ++ [.int .i64 (f n)] := by
  unfold gl ints
  rw [List.range_succ, List.map_append, List.map_append]; rfl
def RowPost (n : Nat) (x : List Int) (w : World) (e : Ending) (w' : World) : Prop := ∃ v, e = .returned v ∧ w'.ownsRow w.heap.size 3 1 v n (ints x) ∧ Below w.heap.size w w'
def ReR (V : World) (n : Nat) (f : Nat → Int) (s5 s6 : Value) (wr : World) : Prop := ∃ k : Nat, k ≤ n ∧ s6 = .int .i64 (k : Int) ∧ Below V.heap.size V wr ∧ wr.ownsRow V.heap.size 3 1 s5 k (ints (gl k f))
theorem rd_blk {w : World} {A : Option Addr} {xs : List Int} (h : Rd w A (ints xs)) {ad : Addr} (e : A = some ad) (hn : 0 < xs.length) : ad.block < w.heap.size := by
  obtain ⟨ad', e', hb, _⟩ := h (by rw [ints_length]; exact hn)
  rw [e] at e'; cases e'; exact hb

/-! Add -/
set_option maxHeartbeats 8000000 in
set_option maxRecDepth 100000 in
theorem refpadd_any (A B : Option Addr) (ca cb : Nat) (p q : List Int) (lp lq n : Nat) (hp : p.length = lp) (hq : q.length = lq) (hm : max lp lq = n) (hn : n ≤ 1000) (hfp : ∀ i, i < lp → Fit (gi p i)) (hfq : ∀ i, i < lq → Fit (gi q i)) (w : World) (hrp : Rd w A (ints p)) (hrq : Rd w B (ints q)) :
    Calls Try.prog 38 #[.slice A lp ca, .slice B lq cb] w (RowPost n (addF n p q) w) := by
  obtain ⟨i0, hi0, hz0, hz1, hz2⟩ := info_parts info_int2
  have INF := Lib.hid (And.intro hi0 (And.intro hz0 (And.intro hz1 hz2)))
  have HP := Lib.hid hrp
  have HQ := Lib.hid hrq
  have HFP := Lib.hid (gi_fit (p := p) (by rw [hp]; exact hfp))
  have HFQ := Lib.hid (gi_fit (p := q) (by rw [hq]; exact hfq))
  have HMM := Lib.hid hm
  clear hi0 hz0 hz1 hz2 hrp hrq hfp hfq hm
  unfold addF
  go_enter Try.func38, Try.ntmps38
  go_wp2_with fail
  go_loopw [5, 6] (fun s5 s6 wr => ReR w n (fun i => Xa.add (gi p i) (gi q i)) s5 s6 wr) (fun _ i _ => n - (intOf i).toNat)
  case atStart => exact ⟨0, by omega, rfl, Below.refl _ _, World.ownsRow_nil _ _ _ _⟩
  case round =>
    obtain ⟨k, hk, rfl, hB, ho⟩ := hrel
    by_cases hlt : k < n
    · have hor : k < lp ∨ k < lq := by have := HMM.out; omega
      have hat1 := refat_any A ca p (k : Int) (by have := HMM.out; omega) wr (HP.out.below (Nat.le_refl _) hB)
      have hat2 := refat_any B cb q (k : Int) (by have := HMM.out; omega) wr (HQ.out.below (Nat.le_refl _) hB)
      have hfa := HFP.out k
      have hfb := HFQ.out k
      have hsn := gl_snoc k (fun i => Xa.add (gi p i) (gi q i))
      rw [atI_nat, hp] at hat1
      rw [atI_nat, hq] at hat2
      obtain ⟨a, ha⟩ : ∃ a, gi p k = a := ⟨_, rfl⟩
      obtain ⟨b, hb⟩ : ∃ a, gi q k = a := ⟨_, rfl⟩
      rw [ha] at hat1 hfa hsn
      rw [hb] at hat2 hfb hsn
      have hadd := refadd_any a b hfa.1 hfa.2 hfb.1 hfb.2 wr
      obtain ⟨s, hs⟩ : ∃ s, Xa.add a b = s := ⟨_, rfl⟩
      rw [hs] at hadd hsn
      have C1 := Lib.hid hat1
      have C2 := Lib.hid hat2
      have C3 := Lib.hid hadd
      have HSN := Lib.hid hsn
      have HO := Lib.hid ho
      have HB := Lib.hid hB
      have HMX := Lib.hid (show k + 1 ≤ maxLen ∧ (k + 1) * 8 ≤ 140737488355328 by unfold maxLen; constructor <;> omega)
      clear hat1 hat2 hadd hsn ho hB ha hb hs hfa hfb
      by_cases h1 : k < lp
      · have t1 : decide ((k : Int) < (lp : Int)) = true := decide_eq_true (by omega)
        go_wp2_with (first | (go_at_call 43; with_reducible refine C1.out.mono ?_; rintro e w' ⟨rfl, rfl⟩) | (go_at_call 43; with_reducible refine C2.out.mono ?_; rintro e w' ⟨rfl, rfl⟩) | (go_at_call 35; with_reducible refine C3.out.mono ?_; rintro e w' ⟨rfl, rfl⟩) | (at_builtin; refine wpList_append_lies _ rfl _ _ _ (by rfl) _ 3 i0 _ 1 8 Try.underlying29 INF.out.1 INF.out.2.1 INF.out.2.2.1 INF.out.2.2.2 rfl (by omega) _ k (ints (gl k fun i => Xa.add (gi p i) (gi q i))) (by rfl) (HO.out.alloc _) ⟨wr.heap.size, 0, none⟩ 1 1 [.int .i64 s] (by rfl) (by rfl) (World.news_of_block (heap_alloc_new _ _)) (by simp [Value.oneCell']) (by omega) HMX.out.1 HMX.out.2 (HB.out.alloc HB.out.size _).size (wr.heap.size + 1) (by simp) ?_))
        intro gg cap w1 hown1 hgrow hat hl1
        have hB1 : Below w.heap.size w w1 := (bel_alloc HB.out _).grown hgrow (bel_alloc HB.out _).size (fun i hi => (HO.out.lt i hi).1)
        have HN := Lib.hid hown1
        have HM := Lib.hid hB1
        clear hown1 hgrow hat hB1
        go_wp2_with fail
        go_roundw
        case rel => exact ⟨k + 1, by omega, by go_num, HM.out, by rw [HSN.out]; exact HN.out⟩
        case measure => simp [intOf]; omega
      · have t1 : decide ((k : Int) < (lp : Int)) = false := decide_eq_false (by omega)
        have t2 : decide ((k : Int) < (lq : Int)) = true := decide_eq_true (by omega)
        go_wp2_with (first | (go_at_call 43; with_reducible refine C1.out.mono ?_; rintro e w' ⟨rfl, rfl⟩) | (go_at_call 43; with_reducible refine C2.out.mono ?_; rintro e w' ⟨rfl, rfl⟩) | (go_at_call 35; with_reducible refine C3.out.mono ?_; rintro e w' ⟨rfl, rfl⟩) | (at_builtin; refine wpList_append_lies _ rfl _ _ _ (by rfl) _ 3 i0 _ 1 8 Try.underlying29 INF.out.1 INF.out.2.1 INF.out.2.2.1 INF.out.2.2.2 rfl (by omega) _ k (ints (gl k fun i => Xa.add (gi p i) (gi q i))) (by rfl) (HO.out.alloc _) ⟨wr.heap.size, 0, none⟩ 1 1 [.int .i64 s] (by rfl) (by rfl) (World.news_of_block (heap_alloc_new _ _)) (by simp [Value.oneCell']) (by omega) HMX.out.1 HMX.out.2 (HB.out.alloc HB.out.size _).size (wr.heap.size + 1) (by simp) ?_))
        intro gg cap w1 hown1 hgrow hat hl1
        have hB1 : Below w.heap.size w w1 := (bel_alloc HB.out _).grown hgrow (bel_alloc HB.out _).size (fun i hi => (HO.out.lt i hi).1)
        have HN := Lib.hid hown1
        have HM := Lib.hid hB1
        clear hown1 hgrow hat hB1
        go_wp2_with fail
        go_roundw
        case rel => exact ⟨k + 1, by omega, by go_num, HM.out, by rw [HSN.out]; exact HN.out⟩
        case measure => simp [intOf]; omega
    · have t1 : decide ((k : Int) < (lp : Int)) = false := decide_eq_false (by have := HMM.out; omega)
      have t2 : decide ((k : Int) < (lq : Int)) = false := decide_eq_false (by have := HMM.out; omega)
      have t3 : ¬ k < lp := by have := HMM.out; omega
      have t4 : ¬ k < lq := by have := HMM.out; omega
      have t5 : (decide ((k : Int) < (lp : Int)) || decide ((k : Int) < (lq : Int))) = false := by rw [t1, t2]; rfl
      obtain rfl : k = n := by omega
      have HX := Lib.hid (And.intro ho hB)
      clear ho hB
      go_wp2_with fail
      go_ret
      exact ⟨_, rfl, HX.out⟩

end Go.Proofs.Ythbjechgdjcogaa
