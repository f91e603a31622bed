/- pool: right, Right, has, Total, without. -/
import Derived.Test.YtfmnlnmajephlaaShareW
import Derived.Test.YtfmnlnmajephlaaShrQ
import Derived.Laws.CopyOwn
namespace Go.Proofs.Ytfmnlnmajephlaa
open Go.RowKit
set_option linter.unusedVariables false
set_option linter.unusedSimpArgs false

/-! rows -/
theorem IR.heap {w : World} {B g n : Nat} {xs : List Int} (h : IR w B g n xs) : w.heap[g]? = some (.cells (ints xs).toArray 3 (0, 0)) := by
  rcases h.2 with ⟨e, _⟩ | ⟨g', cap, cur, e, _, hg, _, _, hs, ht⟩
  · cases e
  · cases e
    rw [hg, ← ht]
    congr 2
    rw [List.take_of_length_le (by rw [Array.length_toList, hs]; exact Nat.le_refl _)]
theorem IR.of {w : World} {B g n : Nat} {xs : List Int} (h : w.heap[g]? = some (.cells (ints xs).toArray 3 (0, 0))) (hl : xs.length = n) (hb : B ≤ g) (hm : n ≤ maxLen) : IR w B g n xs :=
  ⟨by rw [ints_length, hl, Nat.mul_one], .inr ⟨g, n, (ints xs).toArray, rfl, hb, h, Nat.le_refl _, hm, by simp [ints_length, hl], by rw [List.take_of_length_le (by simp [ints_length, hl])]⟩⟩
theorem IR.next {w w' : World} {B g n : Nat} {xs : List Int} (h : IR w B g n xs) (hb : Below w.heap.size w w') : IR w' B g n xs := h.kept (grown_bel ⟨w', hb⟩) (by simp)
theorem IR.rd {w : World} {B g n : Nat} {xs : List Int} (h : IR w B g n xs) : Rd w (some ⟨g, 0, none⟩) (ints xs) := fun _ =>
  ⟨⟨g, 0, none⟩, rfl, h.lt.2, fun j u hu => World.ownsRow.cells h (g := g) rfl j u hu⟩
theorem splice_all (n : Nat) (f : Nat → Int) {p : List Int} (h : p.length = n) : splice (ints (fl n 0 f)) 0 (ints p) = ints p := by
  unfold splice
  rw [List.take_zero, List.nil_append, List.drop_eq_nil_of_le (by rw [ints_length, ints_length, fl_length]; omega), List.append_nil]
theorem info_i1 : (Try.prog.info? 3).map (·.size) = some 1 := by kernel_rfl
theorem ints_one (p : List Int) : ∀ v ∈ ints p, v.oneCell' = true := fun v hv => by
  unfold ints at hv
  obtain ⟨a, _, rfl⟩ := List.mem_map.1 hv
  rfl
/-- a row's list by its places -/
def gl (n : Nat) (f : Nat → Int) : List Int := (List.range n).map f
theorem gl_length (n : Nat) (f : Nat → Int) : (gl n f).length = n := by simp [gl]
theorem gl_at {n i : Nat} {f : Nat → Int} (h : i < n) : gi (gl n f) i = f i := gi_map h
theorem gl_self {p : List Int} {n : Nat} (h : p.length = n) : gl n (gi p) = p := gi_ext (by rw [gl_length, h]) fun i hi => by rw [gl_length] at hi; rw [gl_at hi]
theorem gl_congr {n : Nat} {f g : Nat → Int} (h : ∀ i, i < n → f i = g i) : gl n f = gl n g := gi_ext (by rw [gl_length, gl_length]) fun i hi => by rw [gl_length] at hi; rw [gl_at hi, gl_at hi, h i hi]
theorem gl_set {n k : Nat} {f : Nat → Int} (h : k < n) (v : Int) : (gl n f).set k v = gl n (fun i => if i = k then v else f i) := by
  refine gi_ext (by simp [gl_length]) fun i hi => ?_
  rw [List.length_set, gl_length] at hi
  by_cases e : k = i
  · subst e; rw [gi_set_same (by rw [gl_length]; exact h), gl_at h, if_pos rfl]
  · rw [gi_set_other e, gl_at hi, gl_at hi, if_neg (Ne.symm e)]
/-- k places turned -/
def upto (k : Nat) (f g : Nat → Int) (i : Nat) : Int := if i < k then f i else g i
theorem gl_step {n k : Nat} {f g : Nat → Int} (h : k < n) : (gl n (upto k f g)).set k (f k) = gl n (upto (k + 1) f g) := by
  rw [gl_set h]
  refine gl_congr fun i _ => ?_
  unfold upto
  by_cases e : i = k
  · subst e; rw [if_pos rfl, if_pos (by omega)]
  · rw [if_neg e]
    by_cases h1 : i < k
    · rw [if_pos h1, if_pos (by omega)]
    · rw [if_neg h1, if_neg (by omega)]
theorem gl_none (n : Nat) (f g : Nat → Int) : gl n (upto 0 f g) = gl n g := gl_congr fun i _ => by unfold upto; rw [if_neg (by omega)]
theorem gl_all (n : Nat) (f g : Nat → Int) : gl n (upto n f g) = gl n f := gl_congr fun i hi => by unfold upto; rw [if_pos hi]
theorem BelW.below6 {w : World} (x : BelW w) : Below w.heap.size w x.w := x.2

/-! right -/
def RiP (l : List Int) : Prop := WtK l l.length
noncomputable def riB (l : List Int) : Bool := @decide (RiP l) (Classical.propDecidable _)
theorem riB_iff {l : List Int} : riB l = true ↔ RiP l := by unfold riB; exact @decide_eq_true_iff _ (Classical.propDecidable _)
theorem RiP.wt {l : List Int} (h : RiP l) (hl : l.length ≤ 64) : Wt l := WtK.all h hl
theorem not_ri_neg {l : List Int} {k : Nat} (hk : k < l.length) (h : gi l k < 0) : ¬ RiP l := fun hw => by have := hw.pos k hk; omega
theorem su_mono {l : List Int} (hp : ∀ i, i < l.length → 0 ≤ gi l i) {k : Nat} (hk : k ≤ l.length) : su (gi l) k ≤ su (gi l) l.length := by
  obtain ⟨j, e⟩ : ∃ j, l.length = k + j := ⟨l.length - k, by omega⟩
  have : ∀ j, k + j ≤ l.length → su (gi l) k ≤ su (gi l) (k + j) := fun j => by
    induction j with
    | zero => intro _; exact Int.le_refl _
    | succ j ih =>
      intro hj
      have := ih (by omega)
      have := hp (k + j) (by omega)
      show su (gi l) k ≤ su (gi l) (k + j) + gi l (k + j)
      omega
  rw [e]
  exact this j (by omega)
theorem not_ri_sum {l : List Int} {k : Nat} (hk : k < l.length) (h : 1125899906842624 - su (gi l) k < gi l k) : ¬ RiP l := fun hw => by
  have h1 : su (gi l) k + gi l k ≤ su (gi l) l.length := su_mono hw.pos (k := k + 1) (by omega)
  have := hw.sum
  omega
def RiR (V : World) (l : List Int) (s3 s8 : Value) (wr : World) : Prop := ∃ k : Nat, k ≤ l.length ∧ s8 = .int .i64 (k : Int) ∧ s3 = .int .i64 (su (gi l) k) ∧ Hid (WtK l k) ∧ ∃ y : BelW V, wr = y.w
def RiPost (l : List Int) (w : World) (e : Ending) (w' : World) : Prop := ∃ b : Bool, e = .returned (.bool b) ∧ (b = true ↔ RiP l) ∧ Below w.heap.size w w'
theorem ri_no {l : List Int} {w w' : World} (h : ¬ RiP l) (hb : Below w.heap.size w w') : RiPost l w (.returned (.bool false)) w' := ⟨false, rfl, ⟨fun h => absurd h Bool.false_ne_true, fun h' => absurd h' h⟩, hb⟩

set_option maxHeartbeats 4000000 in
set_option maxRecDepth 100000 in
theorem rightp_any (A : Option Addr) (c : Nat) (l : List Int) (hn : l.length ≤ 9223372036854775807) (w : World) (hr : Rd w A (ints l)) :
    Calls Try.prog 23 #[.slice A l.length c] w (RiPost l w) := by
  have HR := Lib.hid hr
  clear hr
  go_enter Try.func23, Try.ntmps23
  go_wp2_with fail
  go_loopw [3, 8] (fun s3 s8 wr => RiR w l s3 s8 wr) (fun _ i _ => l.length - (intOf i).toNat)
  case atStart => exact ⟨0, by omega, rfl, rfl, Lib.hid ⟨fun i hi => absurd hi (Nat.not_lt_zero _), by show (0 : Int) ≤ _; omega⟩, ⟨w, Below.refl _ _⟩, rfl⟩
  case round =>
    obtain ⟨k, hk, rfl, rfl, hwt, y, rfl⟩ := hrel
    have s1 := hwt.out.nonneg
    have s2 := hwt.out.sum
    by_cases hlt : k < l.length
    · have i3 : decide ((k : Int) < (l.length : Int)) = true := decide_eq_true (by omega)
      obtain ⟨ad, u, rfl, hadb, e1, e2⟩ := (HR.out.bel y).at (k := k) (by rw [ints_length]; exact hlt)
      rw [ints_at hlt] at e1
      cases e1
      have j1 : (0 : Int) ≤ (k : Int) := by omega
      have j2 : (k : Int) < (l.length : Int) := by omega
      have HL := Lib.hid hlt
      obtain ⟨S, hS⟩ : ∃ S, su (gi l) k = S := ⟨_, rfl⟩
      obtain ⟨v, hv⟩ : ∃ v, gi l k = v := ⟨_, rfl⟩
      rw [hS] at s1 s2
      rw [hv] at e2
      rw [hS]
      have wS : IntKind.i64.wrap (1125899906842624 - S) = 1125899906842624 - S := IntWalk.i64_in _ (by omega)
      have HS := Lib.hid hS
      have HV := Lib.hid hv
      clear hS hv
      by_cases v0 : v < 0
      · have v0' : decide (v < 0) = true := decide_eq_true v0
        go_wp2_with fail
        go_ret
        exact ri_no (not_ri_neg HL.out (by rw [HV.out]; exact of_decide_eq_true v0')) y.2
      have v0' : decide (v < 0) = false := decide_eq_false v0
      by_cases v1 : 1125899906842624 - S < v
      · have v1' : decide (1125899906842624 - S < v) = true := decide_eq_true v1
        go_wp2_with fail
        go_ret
        exact ri_no (not_ri_sum HL.out (by rw [HV.out, HS.out]; exact of_decide_eq_true v1')) y.2
      have v1' : decide (1125899906842624 - S < v) = false := decide_eq_false v1
      have wA : IntKind.i64.wrap (S + v) = S + v := IntWalk.i64_in _ (by omega)
      have HX := Lib.hid (hwt.out.step (by rw [HV.out]; omega) (by rw [HV.out, HS.out]; omega))
      have HZ := Lib.hid (show su (gi l) (k + 1) = S + v by show su (gi l) k + gi l k = _; rw [HV.out, HS.out])
      go_wp2_with fail
      go_roundw
      case rel => exact ⟨k + 1, by have := HL.out; omega, by go_num, by rw [HZ.out], HX, y, rfl⟩
      case measure => have := HL.out; simp [intOf]; omega
    · have i3 : decide ((k : Int) < (l.length : Int)) = false := decide_eq_false (by omega)
      obtain rfl : k = l.length := by omega
      have hB : Below w.heap.size w y.w := y.2
      go_wp2_with fail
      go_ret
      exact ⟨true, rfl, ⟨fun _ => hwt.out, fun _ => rfl⟩, hB⟩
theorem ri_c {V : World} (A : Option Addr) (c : Nat) (l : List Int) (n : Nat) (hl : l.length = n) (hn : n ≤ 9223372036854775807) (b : Bool) (hb : riB l = b) (y : BelW V) (hr : Rd V A (ints l)) :
    Calls Try.prog 23 #[.slice A n c] y.w fun e w' => e = .returned (.bool b) ∧ ∃ z : BelW V, w' = z.w := by
  subst hl hb
  refine bel_of ((rightp_any A c l hn y.w (hr.bel y)).mono ?_)
  rintro e w' ⟨b, rfl, h, hB⟩
  have : b = riB l := by rw [Bool.eq_iff_iff, h, riB_iff]
  exact ⟨by rw [this], hB⟩

/-! Right -/
noncomputable def rightF (l : List Int) (o : Int) : Bool := decide (0 ≤ o) && decide (o ≤ 16) && decide ((l.length : Int) = o) && riB l
set_option maxHeartbeats 4000000 in
theorem right_any (A : Option Addr) (c : Nat) (l : List Int) (o : Int) (hn : l.length ≤ 9223372036854775807) (w : World) (hr : Rd w A (ints l)) :
    Calls Try.prog 9 #[.slice A l.length c, .int .i64 o] w fun e w' => e = .returned (.bool (rightF l o)) ∧ Below w.heap.size w w' := by
  refine rebase w (fun V hV x0 => ?_)
  subst hV
  obtain ⟨b, hb⟩ : ∃ b, riB l = b := ⟨_, rfl⟩
  have C := Lib.hid (fun u : BelW V => ri_c A c l l.length rfl hn b hb u hr)
  unfold rightF
  rw [hb]
  clear hr hb
  by_cases h1 : 0 ≤ o
  · have t1 : decide (0 ≤ o) = true := decide_eq_true h1
    by_cases h2 : o ≤ 16
    · have t2 : decide (o ≤ 16) = true := decide_eq_true h2
      by_cases h3 : (l.length : Int) = o
      · subst h3
        go_enter Try.func9, Try.ntmps9
        go_wp2_with (first | (go_at_call 23; with_reducible refine (C.out _).mono ?_; rintro e w' ⟨rfl, yy, rfl⟩))
        go_ret
        exact ⟨by simp [t2], BelW.below6 _⟩
      · have t3 : decide ((l.length : Int) = o) = false := decide_eq_false h3
        have t3' : ((l.length : Int) == o) = false := beq_eq_false_iff_ne.2 h3
        go_enter Try.func9, Try.ntmps9
        go_wp2_with fail
        go_ret
        exact ⟨by simp [t1, t2, t3], BelW.below6 _⟩
    · have t2 : decide (o ≤ 16) = false := decide_eq_false h2
      go_enter Try.func9, Try.ntmps9
      go_wp2_with fail
      go_ret
      exact ⟨by simp [t1, t2], BelW.below6 _⟩
  · have t1 : decide (0 ≤ o) = false := decide_eq_false h1
    go_enter Try.func9, Try.ntmps9
    go_wp2_with fail
    go_ret
    exact ⟨by simp [t1], BelW.below6 _⟩

end Go.Proofs.Ytfmnlnmajephlaa
