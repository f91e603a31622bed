/- pool: without, From, Take. -/
import Derived.Test.YtfmnlnmajephlaaPoolB
namespace Go.Proofs.Ytfmnlnmajephlaa
open Go.RowKit
set_option linter.unusedVariables false
set_option linter.unusedSimpArgs false

theorem info_int2 : (Try.prog.info? 3).map (fun i => (i.zero, i.size, i.bytes)) = some (some (.int .i64 0), 1, 8) := by kernel_rfl
theorem heap_ir {w : World} {B g n : Nat} {f : Nat → Int} {p : List Int} (h : w.heap[g]? = some (.cells (splice (ints (fl n 0 f)) 0 (ints p)).toArray 3 (0, 0))) (hl : p.length = n) (hb : B ≤ g) (hm : n ≤ maxLen) : IR w B g n p := by
  rw [splice_all n f hl] at h
  exact IR.of h hl hb hm
theorem copy_pos {w : World} {A : Option Addr} {p : List Int} {g : Nat} (hr : Rd w A (ints p)) : 0 < (ints p).length → (some (⟨g, 0, none⟩ : Addr) = some ⟨g, 0, none⟩) ∧ ∃ ad, A = some ad ∧ ∀ j v, (ints p)[j]? = some v → w.cell? (ad.add j) = some v := fun h => by
  obtain ⟨ad, e, _, hc⟩ := hr h
  exact ⟨rfl, ad, e, hc⟩

/-! without -/
def WoR (V : World) (n g : Nat) (f h : Nat → Int) (s16 : Value) (wr : World) : Prop := ∃ k : Nat, k ≤ n ∧ s16 = .int .i64 (k : Int) ∧ Below V.heap.size V wr ∧ IR wr V.heap.size g n (gl n (upto k f h))
def MkPost (n : Nat) (x : List Int) (w : World) (e : Ending) (w' : World) : Prop := ∃ g, e = .returned (.slice (some ⟨g, 0, none⟩) n n) ∧ IR w' w.heap.size g n x ∧ Below w.heap.size w w'
set_option maxHeartbeats 8000000 in
set_option maxRecDepth 100000 in
theorem without_any (A B : Option Addr) (ca cb : Nat) (p t : List Int) (n : Nat) (hp : p.length = n) (ht : t.length = n) (hn : n ≤ 1000) (hf : ∀ i, i < n → Fit (gi p i - gi t i)) (w : World) (hrp : Rd w A (ints p)) (hrt : Rd w B (ints t)) :
    Calls Try.prog 25 #[.slice A n ca, .slice B n cb] w (MkPost n (gl n fun i => gi p i - gi t i) w) := by
  obtain ⟨i0, hi0, hz0, hz1, hz2⟩ := info_parts info_int2
  have hmk : i0.bytes * n ≤ 281474976710656 := by rw [hz2]; omega
  have hml : n ≤ maxLen := by unfold maxLen; omega
  have INF := Lib.hid (And.intro hi0 (And.intro hz0 (And.intro hz1 (And.intro hmk hml))))
  have HP := Lib.hid hrp
  have HT := Lib.hid hrt
  have HF := Lib.hid hf
  clear hi0 hz0 hz1 hz2 hmk hml hrp hrt hf
  go_enter Try.func25, Try.ntmps25
  go_upto_region 1 with fail
  go_wp2_with (first | (at_make; refine wpList_make_full _ rfl _ _ 22 rfl w.heap.size 3 i0 (.int .i64 0) 1 Try.underlying22 INF.out.1 INF.out.2.1 INF.out.2.2.1 _ _ _ _ n rfl rfl rfl rfl INF.out.2.2.2.1 INF.out.2.2.2.2 (Nat.le_refl _) ?_))
  intro w1 hown1 hg1
  have hI := ir_made (gi p) hown1
  have HB1 := Lib.hid (below_grown (Below.refl w.heap.size w) hg1 (fun k hk => by cases hk))
  have HH := Lib.hid hI.heap
  have hgb := hI.lt.1
  have HR1 := Lib.hid (HP.out.below (Nat.le_refl _) HB1.out)
  clear hown1 hg1 hI
  go_upto_region 2 with fail
  go_wp2_with (first | (refine wpList_copy_splice rfl (.tmp 11) (.tmp 12) 22 22 rfl 3 Try.underlying22 info_i1 (some ⟨w.heap.size, 0, none⟩) A n n n ca (by rfl) (by rfl) w.heap.size 0 (ints (fl n 0 (gi p))) 3 HH.out (ints p) (by rw [ints_length, hp]; exact (Nat.min_self n).symm) (copy_pos HR1.out) (by rw [ints_length, ints_length, fl_length]; omega) (ints_one p) w.heap.size w HB1.out (Nat.le_refl _) ?_))
  intro w2 hg2 hB2
  have HI2 := Lib.hid (heap_ir (B := w.heap.size) hg2.out hp (Nat.le_refl _) INF.out.2.2.2.2)
  have HB2 := Lib.hid hB2
  clear hg2 hB2 HH HR1
  have HT2 := Lib.hid (fun w' (h : Below w.heap.size w w') => HT.out.below (Nat.le_refl _) h)
  go_wp2_with fail
  go_loopw [16] (fun s16 wr => WoR w n w.heap.size (fun i => gi p i - gi t i) (gi p) s16 wr) (fun i _ => n - (intOf i).toNat)
  case atStart => exact ⟨0, by omega, rfl, HB2.out, by rw [gl_none, gl_self hp]; exact HI2.out⟩
  case round =>
    obtain ⟨k, hk, rfl, hB, hI⟩ := hrel
    by_cases hlt : k < n
    · have i3 : decide ((k : Int) < (n : Int)) = true := decide_eq_true (by omega)
      obtain ⟨bd, u, rfl, _, e1, e2⟩ := (HT2.out _ hB).at (k := k) (by rw [ints_length]; omega)
      rw [ints_at (by omega)] at e1
      cases e1
      have c1 := hI.cell hlt
      have f1 := hI.frozen k
      rw [gl_at hlt, show upto k (fun i => gi p i - gi t i) (gi p) k = gi p k by unfold upto; rw [if_neg (Nat.lt_irrefl _)]] at c1
      have hst := gl_step (n := n) (k := k) (f := fun i => gi p i - gi t i) (g := gi p) hlt
      have hft := HF.out k hlt
      have HX := Lib.hid (And.intro (hB.setCell (p := ⟨w.heap.size, k, none⟩) (Nat.le_refl _) (.int .i64 (gi p k - gi t k))) (hst ▸ hI.set k (gi p k - gi t k)))
      obtain ⟨a, ha⟩ : ∃ a, gi p k = a := ⟨_, rfl⟩
      obtain ⟨b, hb⟩ : ∃ a, gi t k = a := ⟨_, rfl⟩
      rw [ha] at c1 HX hft
      rw [hb] at e2 HX hft
      have w0 : IntKind.i64.wrap (a - b) = a - b := IntWalk.i64_in _ hft
      have j1 : (0 : Int) ≤ (k : Int) := by omega
      have j2 : (k : Int) < (n : Int) := by omega
      clear hst ha hb hB hI hft
      go_wp2_with fail
      go_roundw
      case rel => exact ⟨k + 1, by omega, by go_num, HX.out⟩
      case measure => simp [intOf]; omega
    · have i3 : decide ((k : Int) < (n : Int)) = false := decide_eq_false (by omega)
      obtain rfl : k = n := by omega
      rw [gl_all] at hI
      have HX := Lib.hid (And.intro hI hB)
      clear hI hB
      go_wp2_with fail
      go_ret
      exact ⟨_, rfl, HX.out⟩

end Go.Proofs.Ytfmnlnmajephlaa
