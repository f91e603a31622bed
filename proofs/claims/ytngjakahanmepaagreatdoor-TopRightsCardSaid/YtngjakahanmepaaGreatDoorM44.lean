/- Part 44 of the proof of TopRights: pool: right, Right, has, Total, without. pool: has, Total, without. pool: without, From, Take. pool: From, Take. pool: Take. -/
import Derived.Test.YtngjakahanmepaaGreatDoorM43
import Derived.Test.YtngjakahanmepaaGreatDoorM42
import Derived.Laws.CopyOwn
namespace Go.Proofs.YtngjakahanmepaaGreatDoor.Pw
open Go.RowKit
set_option linter.unusedVariables false
set_option linter.unusedSimpArgs false
/-! rows -/
theorem IR.heap {w : World} {B g n : Nat} {xs : List Int} (h : IR w B g n xs) : w.heap[g]? = some (.cells (ints xs).toArray 3 (0, 0)) := by
  rcases h.2 with ⟨e, _⟩ | ⟨g', cap, cur, e, _, hg, _, _, hs, ht⟩
  · cases e
  · cases e
    rw [hg, ← ht]
    congr 2
    rw [List.take_of_length_le (by rw [Array.length_toList, hs]; exact Nat.le_refl _)]
theorem IR.of {w : World} {B g n : Nat} {xs : List Int} (h : w.heap[g]? = some (.cells (ints xs).toArray 3 (0, 0))) (hl : xs.length = n) (hb : B ≤ g) (hm : n ≤ maxLen) : IR w B g n xs :=
  ⟨by rw [ints_length, hl, Nat.mul_one], .inr ⟨g, n, (ints xs).toArray, rfl, hb, h, Nat.le_refl _, hm, by simp [ints_length, hl], by rw [List.take_of_length_le (by simp [ints_length, hl])]⟩⟩
theorem IR.next {w w' : World} {B g n : Nat} {xs : List Int} (h : IR w B g n xs) (hb : Below w.heap.size w w') : IR w' B g n xs := h.kept (grown_bel ⟨w', hb⟩) (by simp)
theorem IR.rd {w : World} {B g n : Nat} {xs : List Int} (h : IR w B g n xs) : Rd w (some ⟨g, 0, none⟩) (ints xs) := fun _ =>
  ⟨⟨g, 0, none⟩, rfl, h.lt.2, fun j u hu => World.ownsRow.cells h (g := g) rfl j u hu⟩
theorem splice_all (n : Nat) (f : Nat → Int) {p : List Int} (h : p.length = n) : splice (ints (fl n 0 f)) 0 (ints p) = ints p := by
  unfold splice
  rw [List.take_zero, List.nil_append, List.drop_eq_nil_of_le (by rw [ints_length, ints_length, fl_length]; omega), List.append_nil]
theorem info_i1 : (Tryz.prog.info? 3).map (·.size) = some 1 := by kernel_rfl
theorem ints_one (p : List Int) : ∀ v ∈ ints p, v.oneCell' = true := fun v hv => by
  unfold ints at hv
  obtain ⟨a, _, rfl⟩ := List.mem_map.1 hv
  rfl
/-- a row's list by its places -/
def gl (n : Nat) (f : Nat → Int) : List Int := (List.range n).map f
theorem gl_length (n : Nat) (f : Nat → Int) : (gl n f).length = n := by simp [gl]
theorem gl_at {n i : Nat} {f : Nat → Int} (h : i < n) : gi (gl n f) i = f i := gi_map h
theorem gl_self {p : List Int} {n : Nat} (h : p.length = n) : gl n (gi p) = p := gi_ext (by rw [gl_length, h]) fun i hi => by rw [gl_length] at hi; rw [gl_at hi]
theorem gl_congr {n : Nat} {f g : Nat → Int} (h : ∀ i, i < n → f i = g i) : gl n f = gl n g := gi_ext (by rw [gl_length, gl_length]) fun i hi => by rw [gl_length] at hi; rw [gl_at hi, gl_at hi, h i hi]
theorem gl_set {n k : Nat} {f : Nat → Int} (h : k < n) (v : Int) : (gl n f).set k v = gl n (fun i => if i = k then v else f i) := by
  refine gi_ext (by simp [gl_length]) fun i hi => ?_
  rw [List.length_set, gl_length] at hi
  by_cases e : k = i
  · subst e; rw [gi_set_same (by rw [gl_length]; exact h), gl_at h, if_pos rfl]
  · rw [gi_set_other e, gl_at hi, gl_at hi, if_neg (Ne.symm e)]
/-- k places turned -/
def upto (k : Nat) (f g : Nat → Int) (i : Nat) : Int := if i < k then f i else g i
theorem gl_step {n k : Nat} {f g : Nat → Int} (h : k < n) : (gl n (upto k f g)).set k (f k) = gl n (upto (k + 1) f g) := by
  rw [gl_set h]
  refine gl_congr fun i _ => ?_
  unfold upto
  by_cases e : i = k
  · subst e; rw [if_pos rfl, if_pos (by omega)]
  · rw [if_neg e]
    by_cases h1 : i < k
    · rw [if_pos h1, if_pos (by omega)]
    · rw [if_neg h1, if_neg (by omega)]
theorem gl_none (n : Nat) (f g : Nat → Int) : gl n (upto 0 f g) = gl n g := gl_congr fun i _ => by unfold upto; rw [if_neg (by omega)]
theorem gl_all (n : Nat) (f g : Nat → Int) : gl n (upto n f g) = gl n f := gl_congr fun i hi => by unfold upto; rw [if_pos hi]
/-! right -/
def RiP (l : List Int) : Prop := WtK l l.length
theorem RiP.wt {l : List Int} (h : RiP l) (hl : l.length ≤ 64) : Wt l := WtK.all h hl
theorem not_ri_neg {l : List Int} {k : Nat} (hk : k < l.length) (h : gi l k < 0) : ¬ RiP l := fun hw => by have := hw.pos k hk; omega
theorem su_mono {l : List Int} (hp : ∀ i, i < l.length → 0 ≤ gi l i) {k : Nat} (hk : k ≤ l.length) : su (gi l) k ≤ su (gi l) l.length := by
  obtain ⟨j, e⟩ : ∃ j, l.length = k + j := ⟨l.length - k, by omega⟩
  have : ∀ j, k + j ≤ l.length → su (gi l) k ≤ su (gi l) (k + j) := fun j => by
    induction j with
    | zero => intro _; exact Int.le_refl _
    | succ j ih =>
      intro hj
      have := ih (by omega)
      have := hp (k + j) (by omega)
      show su (gi l) k ≤ su (gi l) (k + j) + gi l (k + j)
      omega
  rw [e]
  exact this j (by omega)
theorem not_ri_sum {l : List Int} {k : Nat} (hk : k < l.length) (h : 1125899906842624 - su (gi l) k < gi l k) : ¬ RiP l := fun hw => by
  have h1 : su (gi l) k + gi l k ≤ su (gi l) l.length := su_mono hw.pos (k := k + 1) (by omega)
  have := hw.sum
  omega
def RiR (V : World) (l : List Int) (s3 s8 : Value) (wr : World) : Prop := ∃ k : Nat, k ≤ l.length ∧ s8 = .int .i64 (k : Int) ∧ s3 = .int .i64 (su (gi l) k) ∧ Hid (WtK l k) ∧ ∃ y : BelW V, wr = y.w
def RiPost (l : List Int) (w : World) (e : Ending) (w' : World) : Prop := ∃ b : Bool, e = .returned (.bool b) ∧ (b = true ↔ RiP l) ∧ Below w.heap.size w w'
theorem ri_no {l : List Int} {w w' : World} (h : ¬ RiP l) (hb : Below w.heap.size w w') : RiPost l w (.returned (.bool false)) w' := ⟨false, rfl, ⟨fun h => absurd h Bool.false_ne_true, fun h' => absurd h' h⟩, hb⟩
set_option maxHeartbeats 4000000 in
set_option maxRecDepth 100000 in
theorem rightp_any (A : Option Addr) (c : Nat) (l : List Int) (hn : l.length ≤ 9223372036854775807) (w : World) (hr : Rd w A (ints l)) :
    Calls Tryz.prog 123 #[.slice A l.length c] w (RiPost l w) := by
  have HR := Lib.hid hr
  clear hr
  go_enter Tryz.func123, Tryz.ntmps123
  go_wp2_with fail
  go_loopw [3, 8] (fun s3 s8 wr => RiR w l s3 s8 wr) (fun _ i _ => l.length - (intOf i).toNat)
  case atStart => exact ⟨0, by omega, rfl, rfl, Lib.hid ⟨fun i hi => absurd hi (Nat.not_lt_zero _), by show (0 : Int) ≤ _; omega⟩, ⟨w, Below.refl _ _⟩, rfl⟩
  case round =>
    obtain ⟨k, hk, rfl, rfl, hwt, y, rfl⟩ := hrel
    have s1 := hwt.out.nonneg
    have s2 := hwt.out.sum
    by_cases hlt : k < l.length
    · have i3 : decide ((k : Int) < (l.length : Int)) = true := decide_eq_true (by omega)
      obtain ⟨ad, u, rfl, hadb, e1, e2⟩ := (HR.out.bel y).at (k := k) (by rw [ints_length]; exact hlt)
      rw [ints_at hlt] at e1
      cases e1
      have j1 : (0 : Int) ≤ (k : Int) := by omega
      have j2 : (k : Int) < (l.length : Int) := by omega
      have HL := Lib.hid hlt
      obtain ⟨S, hS⟩ : ∃ S, su (gi l) k = S := ⟨_, rfl⟩
      obtain ⟨v, hv⟩ : ∃ v, gi l k = v := ⟨_, rfl⟩
      rw [hS] at s1 s2
      rw [hv] at e2
      rw [hS]
      have wS : IntKind.i64.wrap (1125899906842624 - S) = 1125899906842624 - S := IntWalk.i64_in _ (by omega)
      have HS := Lib.hid hS
      have HV := Lib.hid hv
      clear hS hv
      by_cases v0 : v < 0
      · have v0' : decide (v < 0) = true := decide_eq_true v0
        go_wp2_with fail
        go_ret
        exact ri_no (not_ri_neg HL.out (by rw [HV.out]; exact of_decide_eq_true v0')) y.2
      have v0' : decide (v < 0) = false := decide_eq_false v0
      by_cases v1 : 1125899906842624 - S < v
      · have v1' : decide (1125899906842624 - S < v) = true := decide_eq_true v1
        go_wp2_with fail
        go_ret
        exact ri_no (not_ri_sum HL.out (by rw [HV.out, HS.out]; exact of_decide_eq_true v1')) y.2
      have v1' : decide (1125899906842624 - S < v) = false := decide_eq_false v1
      have wA : IntKind.i64.wrap (S + v) = S + v := IntWalk.i64_in _ (by omega)
      have HX := Lib.hid (hwt.out.step (by rw [HV.out]; omega) (by rw [HV.out, HS.out]; omega))
      have HZ := Lib.hid (show su (gi l) (k + 1) = S + v by show su (gi l) k + gi l k = _; rw [HV.out, HS.out])
      go_wp2_with fail
      go_roundw
      case rel => exact ⟨k + 1, by have := HL.out; omega, by go_num, by rw [HZ.out], HX, y, rfl⟩
      case measure => have := HL.out; simp [intOf]; omega
    · have i3 : decide ((k : Int) < (l.length : Int)) = false := decide_eq_false (by omega)
      obtain rfl : k = l.length := by omega
      have hB : Below w.heap.size w y.w := y.2
      go_wp2_with fail
      go_ret
      exact ⟨true, rfl, ⟨fun _ => hwt.out, fun _ => rfl⟩, hB⟩
end Go.Proofs.YtngjakahanmepaaGreatDoor.Pw
namespace Go.Proofs.YtngjakahanmepaaGreatDoor.Pw
open Go.RowKit
set_option linter.unusedVariables false
set_option linter.unusedSimpArgs false
theorem add_c {V : World} (a b v : Int) (ha : Fit a) (hb : Fit b) (h : Xa.add a b = v) (y : BelW V) :
    Calls Tryz.prog 58 #[.int .i64 a, .int .i64 b] y.w fun e w' => e = .returned (.int .i64 v) ∧ ∃ z : BelW V, w' = z.w :=
  bel_of_same (by have h' := add_any a b ha.1 ha.2 hb.1 hb.2 y.w; rw [h] at h'; exact h')
/-! has -/
/-! Total -/
def tot (p : List Int) : Nat → Int
  | 0 => 0
  | k + 1 => Xa.add (tot p k) (gi p k)
theorem tot_fit (p : List Int) : ∀ k, Fit (tot p k)
  | 0 => by unfold Fit tot; omega
  | k + 1 => Xa.add_bd _ _
theorem tot_su {p : List Int} {k : Nat} (h : ∀ j, j ≤ k → -9223372036854775808 ≤ su (gi p) j ∧ su (gi p) j ≤ 9223372036854775807) : tot p k = su (gi p) k := by
  induction k with
  | zero => rfl
  | succ k ih =>
    show Xa.add (tot p k) (gi p k) = su (gi p) k + gi p k
    rw [ih fun j hj => h j (by omega)]
    have := h (k + 1) (Nat.le_refl _)
    have e : su (gi p) (k + 1) = su (gi p) k + gi p k := rfl
    unfold Xa.add
    rw [if_neg (by omega), if_neg (by omega)]
theorem tot_ri {p : List Int} (h : RiP p) {k : Nat} (hk : k ≤ p.length) : tot p k = su (gi p) k := by
  refine tot_su fun j hj => ?_
  have a := su_le (f := fun _ => 0) (g := gi p) (n := j) (fun i hi => h.pos i (by omega))
  rw [su_zero (fun _ _ => rfl)] at a
  have b := su_mono h.pos (k := j) (by omega)
  have c := h.sum
  omega
def ToR (V : World) (p : List Int) (s3 s8 : Value) (wr : World) : Prop := ∃ k : Nat, k ≤ p.length ∧ s8 = .int .i64 (k : Int) ∧ s3 = .int .i64 (tot p k) ∧ ∃ y : BelW V, wr = y.w
set_option maxHeartbeats 4000000 in
set_option maxRecDepth 100000 in
theorem total_any (A : Option Addr) (c : Nat) (p : List Int) (hn : p.length ≤ 9223372036854775807) (hf : ∀ i, i < p.length → Fit (gi p i)) (w : World) (hr : Rd w A (ints p)) :
    Calls Tryz.prog 45 #[.slice A p.length c] w fun e w' => e = .returned (.int .i64 (tot p p.length)) ∧ Below w.heap.size w w' := by
  have HR := Lib.hid hr
  have HF := Lib.hid hf
  clear hr hf
  go_enter Tryz.func45, Tryz.ntmps45
  go_wp2_with fail
  go_loopw [3, 8] (fun s3 s8 wr => ToR w p s3 s8 wr) (fun _ i _ => p.length - (intOf i).toNat)
  case atStart => exact ⟨0, by omega, rfl, rfl, ⟨w, Below.refl _ _⟩, rfl⟩
  case round =>
    obtain ⟨k, hk, rfl, rfl, y, rfl⟩ := hrel
    by_cases hlt : k < p.length
    · have i3 : decide ((k : Int) < (p.length : Int)) = true := decide_eq_true (by omega)
      obtain ⟨ad, u, rfl, hadb, e1, e2⟩ := (HR.out.bel y).at (k := k) (by rw [ints_length]; exact hlt)
      rw [ints_at hlt] at e1
      cases e1
      have j1 : (0 : Int) ≤ (k : Int) := by omega
      have j2 : (k : Int) < (p.length : Int) := by omega
      obtain ⟨T', hT'⟩ : ∃ v, tot p (k + 1) = v := ⟨_, rfl⟩
      have hT2 : Xa.add (tot p k) (gi p k) = T' := hT'
      have f1 := tot_fit p k
      have f2 := HF.out k hlt
      have HZ := Lib.hid hT'
      obtain ⟨v, hv⟩ : ∃ v, gi p k = v := ⟨_, rfl⟩
      obtain ⟨T, hT⟩ : ∃ v, tot p k = v := ⟨_, rfl⟩
      rw [hv] at e2 f2 hT2
      rw [hT] at f1 hT2 ⊢
      have C := Lib.hid (fun u : BelW w => add_c T v T' f1 f2 hT2 u)
      clear hv hT hT' hT2 f1 f2
      go_wp2_with (first | (go_at_call 58; with_reducible refine (C.out _).mono ?_; rintro e w' ⟨rfl, yy, rfl⟩))
      go_roundw
      case rel => exact ⟨k + 1, by omega, by go_num, by rw [HZ.out], _, rfl⟩
      case measure => simp [intOf]; omega
    · have i3 : decide ((k : Int) < (p.length : Int)) = false := decide_eq_false (by omega)
      obtain rfl : k = p.length := by omega
      have hB : Below w.heap.size w y.w := y.2
      go_wp2_with fail
      go_ret
      exact ⟨rfl, hB⟩
end Go.Proofs.YtngjakahanmepaaGreatDoor.Pw
namespace Go.Proofs.YtngjakahanmepaaGreatDoor.Pw
open Go.RowKit
set_option linter.unusedVariables false
set_option linter.unusedSimpArgs false
theorem info_int2 : (Tryz.prog.info? 3).map (fun i => (i.zero, i.size, i.bytes)) = some (some (.int .i64 0), 1, 8) := by kernel_rfl
theorem heap_ir {w : World} {B g n : Nat} {f : Nat → Int} {p : List Int} (h : w.heap[g]? = some (.cells (splice (ints (fl n 0 f)) 0 (ints p)).toArray 3 (0, 0))) (hl : p.length = n) (hb : B ≤ g) (hm : n ≤ maxLen) : IR w B g n p := by
  rw [splice_all n f hl] at h
  exact IR.of h hl hb hm
theorem copy_pos {w : World} {A : Option Addr} {p : List Int} {g : Nat} (hr : Rd w A (ints p)) : 0 < (ints p).length → (some (⟨g, 0, none⟩ : Addr) = some ⟨g, 0, none⟩) ∧ ∃ ad, A = some ad ∧ ∀ j v, (ints p)[j]? = some v → w.cell? (ad.add j) = some v := fun h => by
  obtain ⟨ad, e, _, hc⟩ := hr h
  exact ⟨rfl, ad, e, hc⟩
/-! without -/
def WoR (V : World) (n g : Nat) (f h : Nat → Int) (s16 : Value) (wr : World) : Prop := ∃ k : Nat, k ≤ n ∧ s16 = .int .i64 (k : Int) ∧ Below V.heap.size V wr ∧ IR wr V.heap.size g n (gl n (upto k f h))
def MkPost (n : Nat) (x : List Int) (w : World) (e : Ending) (w' : World) : Prop := ∃ g, e = .returned (.slice (some ⟨g, 0, none⟩) n n) ∧ IR w' w.heap.size g n x ∧ Below w.heap.size w w'
set_option maxHeartbeats 8000000 in
set_option maxRecDepth 100000 in
theorem without_any (A B : Option Addr) (ca cb : Nat) (p t : List Int) (n : Nat) (hp : p.length = n) (ht : t.length = n) (hn : n ≤ 1000) (hf : ∀ i, i < n → Fit (gi p i - gi t i)) (w : World) (hrp : Rd w A (ints p)) (hrt : Rd w B (ints t)) :
    Calls Tryz.prog 118 #[.slice A n ca, .slice B n cb] w (MkPost n (gl n fun i => gi p i - gi t i) w) := by
  obtain ⟨i0, hi0, hz0, hz1, hz2⟩ := info_parts info_int2
  have hmk : i0.bytes * n ≤ 281474976710656 := by rw [hz2]; omega
  have hml : n ≤ maxLen := by unfold maxLen; omega
  have INF := Lib.hid (And.intro hi0 (And.intro hz0 (And.intro hz1 (And.intro hmk hml))))
  have HP := Lib.hid hrp
  have HT := Lib.hid hrt
  have HF := Lib.hid hf
  clear hi0 hz0 hz1 hz2 hmk hml hrp hrt hf
  go_enter Tryz.func118, Tryz.ntmps118
  go_upto_region 1 with fail
  go_wp2_with (first | (at_make; refine wpList_make_full _ rfl _ _ 29 rfl w.heap.size 3 i0 (.int .i64 0) 1 Tryz.underlying29 INF.out.1 INF.out.2.1 INF.out.2.2.1 _ _ _ _ n rfl rfl rfl rfl INF.out.2.2.2.1 INF.out.2.2.2.2 (Nat.le_refl _) ?_))
  intro w1 hown1 hg1
  have hI := ir_made (gi p) hown1
  have HB1 := Lib.hid (below_grown (Below.refl w.heap.size w) hg1 (fun k hk => by cases hk))
  have HH := Lib.hid hI.heap
  have hgb := hI.lt.1
  have HR1 := Lib.hid (HP.out.below (Nat.le_refl _) HB1.out)
  clear hown1 hg1 hI
  go_upto_region 2 with fail
  go_wp2_with (first | (refine wpList_copy_splice rfl (.tmp 11) (.tmp 12) 29 29 rfl 3 Tryz.underlying29 info_i1 (some ⟨w.heap.size, 0, none⟩) A n n n ca (by rfl) (by rfl) w.heap.size 0 (ints (fl n 0 (gi p))) 3 HH.out (ints p) (by rw [ints_length, hp]; exact (Nat.min_self n).symm) (copy_pos HR1.out) (by rw [ints_length, ints_length, fl_length]; omega) (ints_one p) w.heap.size w HB1.out (Nat.le_refl _) ?_))
  intro w2 hg2 hB2
  have HI2 := Lib.hid (heap_ir (B := w.heap.size) hg2.out hp (Nat.le_refl _) INF.out.2.2.2.2)
  have HB2 := Lib.hid hB2
  clear hg2 hB2 HH HR1
  have HT2 := Lib.hid (fun w' (h : Below w.heap.size w w') => HT.out.below (Nat.le_refl _) h)
  go_wp2_with fail
  go_loopw [16] (fun s16 wr => WoR w n w.heap.size (fun i => gi p i - gi t i) (gi p) s16 wr) (fun i _ => n - (intOf i).toNat)
  case atStart => exact ⟨0, by omega, rfl, HB2.out, by rw [gl_none, gl_self hp]; exact HI2.out⟩
  case round =>
    obtain ⟨k, hk, rfl, hB, hI⟩ := hrel
    by_cases hlt : k < n
    · have i3 : decide ((k : Int) < (n : Int)) = true := decide_eq_true (by omega)
      obtain ⟨bd, u, rfl, _, e1, e2⟩ := (HT2.out _ hB).at (k := k) (by rw [ints_length]; omega)
      rw [ints_at (by omega)] at e1
      cases e1
      have c1 := hI.cell hlt
      have f1 := hI.frozen k
      rw [gl_at hlt, show upto k (fun i => gi p i - gi t i) (gi p) k = gi p k by unfold upto; rw [if_neg (Nat.lt_irrefl _)]] at c1
      have hst := gl_step (n := n) (k := k) (f := fun i => gi p i - gi t i) (g := gi p) hlt
      have hft := HF.out k hlt
      have HX := Lib.hid (And.intro (hB.setCell (p := ⟨w.heap.size, k, none⟩) (Nat.le_refl _) (.int .i64 (gi p k - gi t k))) (hst ▸ hI.set k (gi p k - gi t k)))
      obtain ⟨a, ha⟩ : ∃ a, gi p k = a := ⟨_, rfl⟩
      obtain ⟨b, hb⟩ : ∃ a, gi t k = a := ⟨_, rfl⟩
      rw [ha] at c1 HX hft
      rw [hb] at e2 HX hft
      have w0 : IntKind.i64.wrap (a - b) = a - b := IntWalk.i64_in _ hft
      have j1 : (0 : Int) ≤ (k : Int) := by omega
      have j2 : (k : Int) < (n : Int) := by omega
      clear hst ha hb hB hI hft
      go_wp2_with fail
      go_roundw
      case rel => exact ⟨k + 1, by omega, by go_num, HX.out⟩
      case measure => simp [intOf]; omega
    · have i3 : decide ((k : Int) < (n : Int)) = false := decide_eq_false (by omega)
      obtain rfl : k = n := by omega
      rw [gl_all] at hI
      have HX := Lib.hid (And.intro hI hB)
      clear hI hB
      go_wp2_with fail
      go_ret
      exact ⟨_, rfl, HX.out⟩
end Go.Proofs.YtngjakahanmepaaGreatDoor.Pw
namespace Go.Proofs.YtngjakahanmepaaGreatDoor.Pw
open Go.RowKit
set_option linter.unusedVariables false
set_option linter.unusedSimpArgs false
theorem ir_made2 {w : World} {B g n : Nat} (h : w.ownsRow B 3 1 (.slice (some ⟨g, 0, none⟩) n n) n (madeCells #[Value.int .i64 0] n).toList) : IR w B g n (gl n fun _ => 0) := by
  have h' := ir_made (fun _ => 0) h
  rwa [show fl n 0 (fun _ => 0) = gl n (fun _ => 0) from gi_ext (by rw [fl_length, gl_length]) fun i hi => by rw [fl_length] at hi; rw [fl_at hi, gl_at hi, if_neg (by omega)]] at h'
/-- two rows handed back -/
def TwoPost (n : Nat) (Q : List Int → Prop) (p : List Int) (w : World) (e : Ending) (w' : World) : Prop :=
  ∃ g1 g2 T, e = .returned (.tuple #[.slice (some ⟨g1, 0, none⟩) n n, .slice (some ⟨g2, 0, none⟩) n n]) ∧ Q T ∧ T.length = n ∧ IR w' w.heap.size g1 n T ∧ IR w' w.heap.size g2 n (gl n fun i => gi p i - gi T i) ∧ Below w.heap.size w w' ∧ g1 < g2
theorem IR.base {w : World} {B B' g n : Nat} {xs : List Int} (h : IR w B g n xs) (hb : B' ≤ B) : IR w B' g n xs := IR.of h.heap h.len (Nat.le_trans hb h.lt.1) (by
  rcases h.2 with ⟨e, _⟩ | ⟨g', cap, cur, e, _, _, hc, hm, _⟩
  · cases e
  · cases e; exact hm)
/-! From -/
end Go.Proofs.YtngjakahanmepaaGreatDoor.Pw
namespace Go.Proofs.YtngjakahanmepaaGreatDoor.Pw
open Go.RowKit
set_option linter.unusedVariables false
set_option linter.unusedSimpArgs false
theorem splice_to {xs p : List Int} (h : p.length = xs.length) : splice (ints xs) 0 (ints p) = ints p := by
  unfold splice
  rw [List.take_zero, List.nil_append, List.drop_eq_nil_of_le (by rw [ints_length, ints_length]; omega), List.append_nil]
def TakeQ (p : List Int) (k : Int) (T : List Int) : Prop :=
  (0 < k ∧ p.length ≤ 64 ∧ RiP p ∧ ShareP (min k p.sum) p T) ∨ (¬ (0 < k ∧ p.length ≤ 64 ∧ RiP p) ∧ T = gl p.length fun _ => 0)
set_option maxHeartbeats 8000000 in
set_option maxRecDepth 100000 in
theorem take_any (A : Option Addr) (c : Nat) (p : List Int) (hn : p.length ≤ 1000) (hf : ∀ i, i < p.length → Fit (gi p i)) (k : Int) (w : World) (hr : Rd w A (ints p)) :
    Calls Tryz.prog 108 #[.slice A p.length c, .int .i64 k] w (TwoPost p.length (TakeQ p k) p w) := by
  obtain ⟨i0, hi0, hz0, hz1, hz2⟩ := info_parts info_int2
  have hmk : i0.bytes * p.length ≤ 281474976710656 := by rw [hz2]; omega
  have hml : p.length ≤ maxLen := by unfold maxLen; omega
  have INF := Lib.hid (And.intro hi0 (And.intro hz0 (And.intro hz1 (And.intro hmk hml))))
  have HP := Lib.hid hr
  have HF := Lib.hid hf
  clear hi0 hz0 hz1 hz2 hmk hml hr hf
  go_enter Tryz.func108, Tryz.ntmps108
  go_upto_region 1 with fail
  go_wp2_with (first | (at_make; refine wpList_make_full _ rfl _ _ 29 rfl w.heap.size 3 i0 (.int .i64 0) 1 Tryz.underlying29 INF.out.1 INF.out.2.1 INF.out.2.2.1 _ _ _ _ p.length rfl rfl rfl rfl INF.out.2.2.2.1 INF.out.2.2.2.2 (Nat.le_refl _) ?_))
  intro w1 hown1 hg1
  have HI1 := Lib.hid (ir_made2 hown1)
  have HB1 := Lib.hid (below_grown (Below.refl w.heap.size w) hg1 (fun k hk => by cases hk))
  clear hown1 hg1
  -- the ending, where nothing is taken
  have END := Lib.hid (fun (hno : ¬ (0 < k ∧ p.length ≤ 64 ∧ RiP p)) (w2 : World) (hb : Below w1.heap.size w1 w2) =>
    without_any A (some ⟨w.heap.size, 0, none⟩) c p.length p (gl p.length fun _ => 0) p.length rfl (gl_length _ _) hn (fun j hj => by rw [gl_at hj, Int.sub_zero]; exact HF.out j hj) w2 (HP.out.below (Nat.le_refl _) (below_next HB1.out hb)) (HI1.out.next hb).rd)
  by_cases h1 : 0 < k
  case neg =>
    have t1 : decide (0 < k) = false := decide_eq_false h1
    have HW := Lib.hid (END.out (fun h => h1 h.1) w1 (Below.refl _ _))
    have HNO := Lib.hid (show ¬ (0 < k ∧ p.length ≤ 64 ∧ RiP p) from fun h => h1 h.1)
    clear END h1
    go_wp2_with fail
    refine HW.out.mono ?_
    rintro e w4 ⟨g2, rfl, hI5, hB5⟩
    have HX := Lib.hid (And.intro (HI1.out.next hB5) (And.intro (hI5.base HB1.out.size) (And.intro (below_next HB1.out hB5) (Nat.lt_of_lt_of_le HI1.out.lt.2 hI5.lt.1))))
    clear hI5 hB5
    go_wp2_with fail
    go_ret2
    exact ⟨_, _, _, rfl, .inr ⟨HNO.out, rfl⟩, gl_length _ _, HX.out⟩
  have t1 : decide (0 < k) = true := decide_eq_true h1
  by_cases h2 : p.length ≤ 64
  case neg =>
    have t2 : decide ((p.length : Int) ≤ 64) = false := decide_eq_false (by omega)
    have HW := Lib.hid (END.out (fun h => h2 h.2.1) w1 (Below.refl _ _))
    have HNO := Lib.hid (show ¬ (0 < k ∧ p.length ≤ 64 ∧ RiP p) from fun h => h2 h.2.1)
    clear END h1 h2
    go_wp2_with fail
    refine HW.out.mono ?_
    rintro e w4 ⟨g2, rfl, hI5, hB5⟩
    have HX := Lib.hid (And.intro (HI1.out.next hB5) (And.intro (hI5.base HB1.out.size) (And.intro (below_next HB1.out hB5) (Nat.lt_of_lt_of_le HI1.out.lt.2 hI5.lt.1))))
    clear hI5 hB5
    go_wp2_with fail
    go_ret2
    exact ⟨_, _, _, rfl, .inr ⟨HNO.out, rfl⟩, gl_length _ _, HX.out⟩
  have t2 : decide ((p.length : Int) ≤ 64) = true := decide_eq_true (by omega)
  have HR1 := Lib.hid (HP.out.below (Nat.le_refl _) HB1.out)
  have HRI := Lib.hid (rightp_any A c p (by omega) w1 HR1.out)
  go_upto_region 2 with fail
  go_wp2_with fail
  refine HRI.out.mono ?_
  rintro e w2 ⟨b, rfl, hb, hB2⟩
  cases b
  case false =>
    have hri : ¬ RiP p := fun h => by have := hb.2 h; cases this
    have HW := Lib.hid (END.out (fun h => hri h.2.2) w2 hB2)
    have HNO := Lib.hid (show ¬ (0 < k ∧ p.length ≤ 64 ∧ RiP p) from fun h => hri h.2.2)
    have HB2 := Lib.hid (below_next HB1.out hB2)
    have HI2 := Lib.hid (HI1.out.next hB2)
    clear END h1 h2 hri hb hB2
    go_wp2_with fail
    refine HW.out.mono ?_
    rintro e w4 ⟨g2, rfl, hI5, hB5⟩
    have HX := Lib.hid (And.intro (HI2.out.next hB5) (And.intro (hI5.base HB2.out.size) (And.intro (below_next HB2.out hB5) (Nat.lt_of_lt_of_le HI2.out.lt.2 hI5.lt.1))))
    clear hI5 hB5
    go_wp2_with fail
    go_ret2
    exact ⟨_, _, _, rfl, .inr ⟨HNO.out, rfl⟩, gl_length _ _, HX.out⟩
  case true =>
    have HRP := Lib.hid (hb.1 rfl)
    have HB2 := Lib.hid (below_next HB1.out hB2)
    have HI2 := Lib.hid (HI1.out.next hB2)
    have HH12 := Lib.hid (And.intro h1 h2)
    have HTo := Lib.hid (total_any A c p (by omega) HF.out w2 (HP.out.below (Nat.le_refl _) HB2.out))
    rw [tot_ri HRP.out (Nat.le_refl _), ← sum_su] at HTo
    have HWt := Lib.hid (HRP.out.wt h2)
    obtain ⟨S, hS⟩ : ∃ S, p.sum = S := ⟨_, rfl⟩
    rw [hS] at HTo
    obtain ⟨m, hm⟩ : ∃ m, min k S = m := ⟨_, rfl⟩
    have HS := Lib.hid hS
    have HM := Lib.hid hm
    have HMB := Lib.hid (show 0 ≤ m ∧ m ≤ p.sum by have := HWt.out.nonneg; omega)
    clear END hb hB2 HRI h1 h2 hS
    go_wp2_with fail
    refine HTo.out.mono ?_
    rintro e w3 ⟨rfl, hB3⟩
    have HB3 := Lib.hid (below_next HB2.out hB3)
    have HI3 := Lib.hid (HI2.out.next hB3)
    clear hB3
    have HSh := Lib.hid (share_any m A c p (by omega) w3 (HP.out.below (Nat.le_refl _) HB3.out))
    go_wp2_with fail
    refine HSh.out.mono ?_
    rintro e w4 (⟨g, x, rfl, _, _, _, hx, hI, hB⟩ | ⟨_, hno, _⟩)
    case inr => exact absurd ⟨HWt.out, HMB.out.1, HMB.out.2⟩ hno
    have HB4 := Lib.hid (below_next HB3.out hB)
    have HI4 := Lib.hid (HI3.out.next hB)
    have HX := Lib.hid hx
    have HIX := Lib.hid hI
    have HH := Lib.hid HI4.out.heap
    clear hx hI hB HTo HSh
    go_upto_region 5 with fail
    go_wp2_with (first | (refine wpList_copy_splice rfl (.tmp 32) (.tmp 33) 29 29 rfl 3 Tryz.underlying29 info_i1 (some ⟨w.heap.size, 0, none⟩) (some ⟨g, 0, none⟩) p.length p.length p.length p.length (by rfl) (by rfl) w.heap.size 0 (ints (gl p.length fun _ => 0)) 3 HH.out (ints x) (by rw [ints_length, HX.out.len]; exact (Nat.min_self _).symm) (copy_pos HIX.out.rd) (by rw [ints_length, ints_length, gl_length, HX.out.len]; omega) (ints_one x) w.heap.size w HB4.out (Nat.le_refl _) ?_))
    intro w5 hg5 hB5
    have HB5 := Lib.hid hB5
    have HI5 := Lib.hid (show IR w5 w.heap.size w.heap.size p.length x from IR.of (by have := hg5.out; rwa [splice_to (by rw [gl_length]; exact HX.out.len)] at this) HX.out.len (Nat.le_refl _) INF.out.2.2.2.2)
    clear hg5 hB5 HH HIX HI4
    have HW := Lib.hid (without_any A (some ⟨w.heap.size, 0, none⟩) c p.length p x p.length rfl HX.out.len hn (fun j hj => by
      have a := HX.out.le HWt.out HMB.out.1 HMB.out.2 hj
      have b := HF.out j hj
      unfold Fit at b ⊢
      omega) w5 (HP.out.below (Nat.le_refl _) HB5.out) HI5.out.rd)
    go_wp2_with fail
    refine HW.out.mono ?_
    rintro e w6 ⟨g2, rfl, hI6, hB6⟩
    have HXX := Lib.hid (And.intro (HI5.out.next hB6) (And.intro (hI6.base HB5.out.size) (And.intro (below_next HB5.out hB6) (Nat.lt_of_lt_of_le HI5.out.lt.2 hI6.lt.1))))
    have HQ := Lib.hid (show TakeQ p k x from .inl ⟨HH12.out.1, HH12.out.2, HRP.out, by rw [HS.out, HM.out]; exact HX.out⟩)
    clear hI6 hB6
    go_wp2_with fail
    go_ret2
    exact ⟨_, _, _, rfl, HQ.out, HX.out.len, HXX.out⟩
end Go.Proofs.YtngjakahanmepaaGreatDoor.Pw
