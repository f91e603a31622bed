/- pool: right, Right, Total, Add. -/
import Derived.Test.YthbjechgdjcogaaInts
namespace Go.Proofs.Ythbjechgdjcogaa
open Go.RowKit
set_option linter.unusedVariables false
set_option linter.unusedSimpArgs false

def RiP (l : List Int) : Prop := WtK l l.length
noncomputable def riB (l : List Int) : Bool := @decide (RiP l) (Classical.propDecidable _)
theorem riB_iff {l : List Int} : riB l = true ↔ RiP l := by unfold riB; exact @decide_eq_true_iff _ (Classical.propDecidable _)
theorem not_ri_neg {l : List Int} {k : Nat} (hk : k < l.length) (h : gi l k < 0) : ¬ RiP l := fun hw => by have := hw.pos k hk; omega
theorem su_mono {l : List Int} (hp : ∀ i, i < l.length → 0 ≤ gi l i) {k : Nat} (hk : k ≤ l.length) : su (gi l) k ≤ su (gi l) l.length := by
  obtain ⟨j, e⟩ : ∃ j, l.length = k + j := ⟨l.length - k, by omega⟩
  have : ∀ j, k + j ≤ l.length → su (gi l) k ≤ su (gi l) (k + j) := fun j => by
    induction j with
    | zero => intro _; exact Int.le_refl _
    | succ j ih =>
      intro hj
      have := ih (by omega)
      have := hp (k + j) (by omega)
      show su (gi l) k ≤ su (gi l) (k + j) + gi l (k + j)
      omega
  rw [e]
  exact this j (by omega)
theorem not_ri_sum {l : List Int} {k : Nat} (hk : k < l.length) (h : 1125899906842624 - su (gi l) k < gi l k) : ¬ RiP l := fun hw => by
  have h1 : su (gi l) k + gi l k ≤ su (gi l) l.length := su_mono hw.pos (k := k + 1) (by omega)
  have := hw.sum
  omega
def RiR (V : World) (l : List Int) (s3 s8 : Value) (wr : World) : Prop := ∃ k : Nat, k ≤ l.length ∧ s8 = .int .i64 (k : Int) ∧ s3 = .int .i64 (su (gi l) k) ∧ Hid (WtK l k) ∧ ∃ y : BelW V, wr = y.w
def RiPost (l : List Int) (w : World) (e : Ending) (w' : World) : Prop := ∃ b : Bool, e = .returned (.bool b) ∧ (b = true ↔ RiP l) ∧ Below w.heap.size w w'
theorem ri_no {l : List Int} {w w' : World} (h : ¬ RiP l) (hb : Below w.heap.size w w') : RiPost l w (.returned (.bool false)) w' := ⟨false, rfl, ⟨fun h => absurd h Bool.false_ne_true, fun h' => absurd h' h⟩, hb⟩

set_option maxHeartbeats 4000000 in
set_option maxRecDepth 100000 in
theorem rightp_any (A : Option Addr) (c : Nat) (l : List Int) (hn : l.length ≤ 9223372036854775807) (w : World) (hr : Rd w A (ints l)) :
    Calls Try.prog 39 #[.slice A l.length c] w (RiPost l w) := by
  have HR := Lib.hid hr
  clear hr
  go_enter Try.func39, Try.ntmps39
  go_wp2_with fail
  go_loopw [3, 8] (fun s3 s8 wr => RiR w l s3 s8 wr) (fun _ i _ => l.length - (intOf i).toNat)
  case atStart => exact ⟨0, by omega, rfl, rfl, Lib.hid ⟨fun i hi => absurd hi (Nat.not_lt_zero _), by show (0 : Int) ≤ _; omega⟩, ⟨w, Below.refl _ _⟩, rfl⟩
  case round =>
    obtain ⟨k, hk, rfl, rfl, hwt, y, rfl⟩ := hrel
    have s1 := hwt.out.nonneg
    have s2 := hwt.out.sum
    by_cases hlt : k < l.length
    · have i3 : decide ((k : Int) < (l.length : Int)) = true := decide_eq_true (by omega)
      obtain ⟨ad, u, rfl, hadb, e1, e2⟩ := (HR.out.bel y).at (k := k) (by rw [ints_length]; exact hlt)
      rw [ints_at hlt] at e1
      cases e1
      have j1 : (0 : Int) ≤ (k : Int) := by omega
      have j2 : (k : Int) < (l.length : Int) := by omega
      have HL := Lib.hid hlt
      obtain ⟨S, hS⟩ : ∃ S, su (gi l) k = S := ⟨_, rfl⟩
      obtain ⟨v, hv⟩ : ∃ v, gi l k = v := ⟨_, rfl⟩
      rw [hS] at s1 s2
      rw [hv] at e2
      rw [hS]
      have wS : IntKind.i64.wrap (1125899906842624 - S) = 1125899906842624 - S := IntWalk.i64_in _ (by omega)
      have HS := Lib.hid hS
      have HV := Lib.hid hv
      clear hS hv
      by_cases v0 : v < 0
      · have v0' : decide (v < 0) = true := decide_eq_true v0
        go_wp2_with fail
        go_ret
        exact ri_no (not_ri_neg HL.out (by rw [HV.out]; exact of_decide_eq_true v0')) y.2
      have v0' : decide (v < 0) = false := decide_eq_false v0
      by_cases v1 : 1125899906842624 - S < v
      · have v1' : decide (1125899906842624 - S < v) = true := decide_eq_true v1
        go_wp2_with fail
        go_ret
        exact ri_no (not_ri_sum HL.out (by rw [HV.out, HS.out]; exact of_decide_eq_true v1')) y.2
      have v1' : decide (1125899906842624 - S < v) = false := decide_eq_false v1
      have wA : IntKind.i64.wrap (S + v) = S + v := IntWalk.i64_in _ (by omega)
      have HX := Lib.hid (hwt.out.step (by rw [HV.out]; omega) (by rw [HV.out, HS.out]; omega))
      have HZ := Lib.hid (show su (gi l) (k + 1) = S + v by show su (gi l) k + gi l k = _; rw [HV.out, HS.out])
      go_wp2_with fail
      go_roundw
      case rel => exact ⟨k + 1, by have := HL.out; omega, by go_num, by rw [HZ.out], HX, y, rfl⟩
      case measure => have := HL.out; simp [intOf]; omega
    · have i3 : decide ((k : Int) < (l.length : Int)) = false := decide_eq_false (by omega)
      obtain rfl : k = l.length := by omega
      have hB : Below w.heap.size w y.w := y.2
      go_wp2_with fail
      go_ret
      exact ⟨true, rfl, ⟨fun _ => hwt.out, fun _ => rfl⟩, hB⟩
theorem ri_c {V : World} (A : Option Addr) (c : Nat) (l : List Int) (n : Nat) (hl : l.length = n) (hn : n ≤ 9223372036854775807) (b : Bool) (hb : riB l = b) (y : BelW V) (hr : Rd V A (ints l)) :
    Calls Try.prog 39 #[.slice A n c] y.w fun e w' => e = .returned (.bool b) ∧ ∃ z : BelW V, w' = z.w := by
  subst hl hb
  refine bel_of ((rightp_any A c l hn y.w (hr.bel y)).mono ?_)
  rintro e w' ⟨b, rfl, h, hB⟩
  have : b = riB l := by rw [Bool.eq_iff_iff, h, riB_iff]
  exact ⟨by rw [this], hB⟩

/-! Right -/
noncomputable def rightF (l : List Int) (o : Int) : Bool := decide (0 ≤ o) && decide (o ≤ 16) && decide ((l.length : Int) = o) && riB l
set_option maxHeartbeats 4000000 in
theorem right_any (A : Option Addr) (c : Nat) (l : List Int) (o : Int) (hn : l.length ≤ 9223372036854775807) (w : World) (hr : Rd w A (ints l)) :
    Calls Try.prog 23 #[.slice A l.length c, .int .i64 o] w fun e w' => e = .returned (.bool (rightF l o)) ∧ Below w.heap.size w w' := by
  refine rebase w (fun V hV x0 => ?_)
  subst hV
  obtain ⟨b, hb⟩ : ∃ b, riB l = b := ⟨_, rfl⟩
  have C := Lib.hid (fun u : BelW V => ri_c A c l l.length rfl hn b hb u hr)
  unfold rightF
  rw [hb]
  clear hr hb
  by_cases h1 : 0 ≤ o
  · have t1 : decide (0 ≤ o) = true := decide_eq_true h1
    by_cases h2 : o ≤ 16
    · have t2 : decide (o ≤ 16) = true := decide_eq_true h2
      by_cases h3 : (l.length : Int) = o
      · subst h3
        go_enter Try.func23, Try.ntmps23
        go_wp2_with (first | (go_at_call 39; with_reducible refine (C.out _).mono ?_; rintro e w' ⟨rfl, yy, rfl⟩))
        go_ret
        exact ⟨by simp [t2], BelW.below6 _⟩
      · have t3 : decide ((l.length : Int) = o) = false := decide_eq_false h3
        have t3' : ((l.length : Int) == o) = false := beq_eq_false_iff_ne.2 h3
        go_enter Try.func23, Try.ntmps23
        go_wp2_with fail
        go_ret
        exact ⟨by simp [t1, t2, t3], BelW.below6 _⟩
    · have t2 : decide (o ≤ 16) = false := decide_eq_false h2
      go_enter Try.func23, Try.ntmps23
      go_wp2_with fail
      go_ret
      exact ⟨by simp [t1, t2], BelW.below6 _⟩
  · have t1 : decide (0 ≤ o) = false := decide_eq_false h1
    go_enter Try.func23, Try.ntmps23
    go_wp2_with fail
    go_ret
    exact ⟨by simp [t1], BelW.below6 _⟩

theorem add_c {V : World} (a b v : Int) (ha : Fit a) (hb : Fit b) (h : Xa.add a b = v) (y : BelW V) :
    Calls Try.prog 33 #[.int .i64 a, .int .i64 b] y.w fun e w' => e = .returned (.int .i64 v) ∧ ∃ z : BelW V, w' = z.w :=
  bel_of_same (by have h' := add_any a b ha.1 ha.2 hb.1 hb.2 y.w; rw [h] at h'; exact h')
/-! Total -/
def tot (p : List Int) : Nat → Int
  | 0 => 0
  | k + 1 => Xa.add (tot p k) (gi p k)
theorem tot_fit (p : List Int) : ∀ k, Fit (tot p k)
  | 0 => by unfold Fit tot; omega
  | k + 1 => Xa.add_bd _ _
theorem tot_su {p : List Int} {k : Nat} (h : ∀ j, j ≤ k → -9223372036854775808 ≤ su (gi p) j ∧ su (gi p) j ≤ 9223372036854775807) : tot p k = su (gi p) k := by
  induction k with
  | zero => rfl
  | succ k ih =>
    show Xa.add (tot p k) (gi p k) = su (gi p) k + gi p k
    rw [ih fun j hj => h j (by omega)]
    have := h (k + 1) (Nat.le_refl _)
    have e : su (gi p) (k + 1) = su (gi p) k + gi p k := rfl
    unfold Xa.add
    rw [if_neg (by omega), if_neg (by omega)]
theorem tot_ri {p : List Int} (h : RiP p) {k : Nat} (hk : k ≤ p.length) : tot p k = su (gi p) k := by
  refine tot_su fun j hj => ?_
  have a := su_le (f := fun _ => 0) (g := gi p) (n := j) (fun i hi => h.pos i (by omega))
  rw [su_zero (fun _ _ => rfl)] at a
  have b := su_mono h.pos (k := j) (by omega)
  have c := h.sum
  omega
def ToR (V : World) (p : List Int) (s3 s8 : Value) (wr : World) : Prop := ∃ k : Nat, k ≤ p.length ∧ s8 = .int .i64 (k : Int) ∧ s3 = .int .i64 (tot p k) ∧ ∃ y : BelW V, wr = y.w
set_option maxHeartbeats 4000000 in
set_option maxRecDepth 100000 in
theorem total_any (A : Option Addr) (c : Nat) (p : List Int) (hn : p.length ≤ 9223372036854775807) (hf : ∀ i, i < p.length → Fit (gi p i)) (w : World) (hr : Rd w A (ints p)) :
    Calls Try.prog 26 #[.slice A p.length c] w fun e w' => e = .returned (.int .i64 (tot p p.length)) ∧ Below w.heap.size w w' := by
  have HR := Lib.hid hr
  have HF := Lib.hid hf
  clear hr hf
  go_enter Try.func26, Try.ntmps26
  go_wp2_with fail
  go_loopw [3, 8] (fun s3 s8 wr => ToR w p s3 s8 wr) (fun _ i _ => p.length - (intOf i).toNat)
  case atStart => exact ⟨0, by omega, rfl, rfl, ⟨w, Below.refl _ _⟩, rfl⟩
  case round =>
    obtain ⟨k, hk, rfl, rfl, y, rfl⟩ := hrel
    by_cases hlt : k < p.length
    · have i3 : decide ((k : Int) < (p.length : Int)) = true := decide_eq_true (by omega)
      obtain ⟨ad, u, rfl, hadb, e1, e2⟩ := (HR.out.bel y).at (k := k) (by rw [ints_length]; exact hlt)
      rw [ints_at hlt] at e1
      cases e1
      have j1 : (0 : Int) ≤ (k : Int) := by omega
      have j2 : (k : Int) < (p.length : Int) := by omega
      obtain ⟨T', hT'⟩ : ∃ v, tot p (k + 1) = v := ⟨_, rfl⟩
      have hT2 : Xa.add (tot p k) (gi p k) = T' := hT'
      have f1 := tot_fit p k
      have f2 := HF.out k hlt
      have HZ := Lib.hid hT'
      obtain ⟨v, hv⟩ : ∃ v, gi p k = v := ⟨_, rfl⟩
      obtain ⟨T, hT⟩ : ∃ v, tot p k = v := ⟨_, rfl⟩
      rw [hv] at e2 f2 hT2
      rw [hT] at f1 hT2 ⊢
      have C := Lib.hid (fun u : BelW w => add_c T v T' f1 f2 hT2 u)
      clear hv hT hT' hT2 f1 f2
      go_wp2_with (first | (go_at_call 33; with_reducible refine (C.out _).mono ?_; rintro e w' ⟨rfl, yy, rfl⟩))
      go_roundw
      case rel => exact ⟨k + 1, by omega, by go_num, by rw [HZ.out], _, rfl⟩
      case measure => simp [intOf]; omega
    · have i3 : decide ((k : Int) < (p.length : Int)) = false := decide_eq_false (by omega)
      obtain rfl : k = p.length := by omega
      have hB : Below w.heap.size w y.w := y.2
      go_wp2_with fail
      go_ret
      exact ⟨rfl, hB⟩

def WoR (V : World) (n g : Nat) (f h : Nat → Int) (s16 : Value) (wr : World) : Prop := ∃ k : Nat, k ≤ n ∧ s16 = .int .i64 (k : Int) ∧ Below V.heap.size V wr ∧ IR wr V.heap.size g n (gl n (upto k f h))
/-! Add -/
def addF (n : Nat) (p q : List Int) : List Int := gl n fun i => Xa.add (gi p i) (gi q i)
set_option maxHeartbeats 8000000 in
set_option maxRecDepth 100000 in
theorem padd_any (A B : Option Addr) (ca cb : Nat) (p q : List Int) (lp lq n : Nat) (hp : p.length = lp) (hq : q.length = lq) (hm : max lp lq = n) (hn : n ≤ 1000) (hfp : ∀ i, i < lp → Fit (gi p i)) (hfq : ∀ i, i < lq → Fit (gi q i)) (w : World) (hrp : Rd w A (ints p)) (hrq : Rd w B (ints q)) :
    Calls Try.prog 25 #[.slice A lp ca, .slice B lq cb] w (MkPost n (addF n p q) w) := by
  obtain ⟨i0, hi0, hz0, hz1, hz2⟩ := info_parts info_int2
  have hmk : i0.bytes * n ≤ 281474976710656 := by rw [hz2]; omega
  have hml : n ≤ maxLen := by unfold maxLen; omega
  have INF := Lib.hid (And.intro hi0 (And.intro hz0 (And.intro hz1 (And.intro hmk hml))))
  have HP := Lib.hid hrp
  have HQ := Lib.hid hrq
  have HFP := Lib.hid (gi_fit (p := p) (by rw [hp]; exact hfp))
  have HFQ := Lib.hid hfq
  have HM := Lib.hid hm
  have hmx : max (lp : Int) (lq : Int) = (n : Int) := by omega
  clear hi0 hz0 hz1 hz2 hmk hml hrp hrq hfp hfq hm
  go_enter Try.func25, Try.ntmps25
  go_upto_region 1 with fail
  go_wp2_with (first | (at_make; refine wpList_make_full _ rfl _ _ 29 rfl w.heap.size 3 i0 (.int .i64 0) 1 Try.underlying29 INF.out.1 INF.out.2.1 INF.out.2.2.1 _ _ _ _ n (by rfl) (by rfl) (by rfl) (by rfl) INF.out.2.2.2.1 INF.out.2.2.2.2 (Nat.le_refl _) ?_))
  intro w1 hown1 hg1
  have hI := ir_made (fun _ => 0) hown1
  have HB1 := Lib.hid (below_grown (Below.refl w.heap.size w) hg1 (fun k hk => by cases hk))
  have HH := Lib.hid hI.heap
  have HR1 := Lib.hid (HP.out.below (Nat.le_refl _) HB1.out)
  clear hown1 hg1 hI
  go_upto_region 2 with fail
  go_wp2_with (first | (refine wpList_copy_splice rfl (.tmp 14) (.tmp 15) 29 29 rfl 3 Try.underlying29 info_i1 (some ⟨w.heap.size, 0, none⟩) A n n lp ca (by rfl) (by rfl) w.heap.size 0 (ints (fl n 0 fun _ => 0)) 3 HH.out (ints p) (by rw [ints_length, hp]; have := HM.out; exact (Nat.min_eq_left (by omega)).symm) (copy_pos HR1.out) (by rw [ints_length, ints_length, fl_length]; have := HM.out; omega) (ints_one p) w.heap.size w HB1.out (Nat.le_refl _) ?_))
  intro w2 hg2 hB2
  have HI2 := Lib.hid (show IR w2 w.heap.size w.heap.size n (gl n (gi p)) from IR.of (by have := hg2.out; rwa [splice_gl (by have := HM.out; omega)] at this) (gl_length _ _) (Nat.le_refl _) INF.out.2.2.2.2)
  have HB2 := Lib.hid hB2
  clear hg2 hB2 HH HR1
  have HT2 := Lib.hid (fun w' (h : Below w.heap.size w w') => HQ.out.below (Nat.le_refl _) h)
  go_wp2_with fail
  go_loopw [19] (fun s19 wr => WoR w n w.heap.size (fun i => Xa.add (gi p i) (gi q i)) (gi p) s19 wr ∧ (intOf s19).toNat ≤ lq) (fun i _ => lq - (intOf i).toNat)
  case atStart => exact ⟨⟨0, by omega, rfl, HB2.out, by rw [gl_none]; exact HI2.out⟩, by simp [intOf]⟩
  case round =>
    obtain ⟨⟨k, hk, rfl, hB, hI⟩, hkq⟩ := hrel
    have hkq' : k ≤ lq := by simpa [intOf] using hkq
    clear hkq
    by_cases hlt : k < lq
    · have i3 : decide ((k : Int) < (lq : Int)) = true := decide_eq_true (by omega)
      have hkn : k < n := by have := HM.out; omega
      obtain ⟨bd, u, rfl, _, e1, e2⟩ := (HT2.out _ hB).at (k := k) (by rw [ints_length]; omega)
      rw [ints_at (by omega)] at e1
      cases e1
      have c1 := hI.cell hkn
      have f1 := hI.frozen k
      rw [gl_at hkn, show upto k (fun i => Xa.add (gi p i) (gi q i)) (gi p) k = gi p k by unfold upto; rw [if_neg (Nat.lt_irrefl _)]] at c1
      have hst := gl_step (n := n) (k := k) (f := fun i => Xa.add (gi p i) (gi q i)) (g := gi p) hkn
      have fa := HFP.out k
      have fb := HFQ.out k hlt
      have HX := Lib.hid (And.intro hB hI)
      have HST := Lib.hid hst
      obtain ⟨a, ha⟩ : ∃ a, gi p k = a := ⟨_, rfl⟩
      obtain ⟨b, hb⟩ : ∃ a, gi q k = a := ⟨_, rfl⟩
      obtain ⟨s, hs⟩ : ∃ s, Xa.add a b = s := ⟨_, rfl⟩
      rw [ha] at c1 fa
      rw [hb] at e2 fb
      have HS := Lib.hid (show Xa.add (gi p k) (gi q k) = s by rw [ha, hb]; exact hs)
      have C := Lib.hid (add_any a b fa.1 fa.2 fb.1 fb.2 wr)
      rw [hs] at C
      have j1 : (0 : Int) ≤ (k : Int) := by omega
      have j2 : (k : Int) < (lq : Int) := by omega
      have j3 : (k : Int) < (n : Int) := by omega
      clear hst ha hb hs hB hI fa fb
      go_wp2_with (first | (go_at_call 33; with_reducible refine C.out.mono ?_; rintro e w' ⟨rfl, rfl⟩))
      go_roundw
      case rel =>
        refine ⟨⟨k + 1, by omega, by go_num, HX.out.1.setCell (p := ⟨w.heap.size, k, none⟩) (Nat.le_refl _) _, ?_⟩, by simp [intOf]; omega⟩
        rw [← HST.out, HS.out]
        exact HX.out.2.set k s
      case measure => simp [intOf]; omega
    · have i3 : decide ((k : Int) < (lq : Int)) = false := decide_eq_false (by omega)
      have hkl : k = lq := by omega
      have hfin : gl n (upto k (fun i => Xa.add (gi p i) (gi q i)) (gi p)) = addF n p q := gl_congr fun i _ => by
        unfold upto
        by_cases hi : i < k
        · rw [if_pos hi]
        · rw [if_neg hi, gi_out (p := q) (by omega)]
          have := HFP.out i
          unfold Fit at this
          unfold Xa.add
          rw [if_neg (by omega), if_neg (by omega), Int.add_zero]
      rw [hfin] at hI
      have HX := Lib.hid (And.intro hI hB)
      clear hI hB hfin
      go_wp2_with fail
      go_ret
      exact ⟨_, rfl, HX.out⟩

end Go.Proofs.Ythbjechgdjcogaa
