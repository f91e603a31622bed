/- pool: Add, Give. -/
import Derived.Test.YtfmnlnmajephlaaPoolE
namespace Go.Proofs.Ytfmnlnmajephlaa
open Go.RowKit
set_option linter.unusedVariables false
set_option linter.unusedSimpArgs false

theorem splice_gl {n : Nat} {p : List Int} (h : p.length ≤ n) : splice (ints (fl n 0 fun _ => 0)) 0 (ints p) = ints (gl n (gi p)) := by
  unfold splice
  rw [List.take_zero, List.nil_append]
  refine List.ext_getElem (by simp [ints_length, fl_length, gl_length]; omega) fun i h1 h2 => ?_
  rw [ints_length, gl_length] at h2
  rw [List.getElem_append]
  split
  · rename_i h3
    rw [ints_length] at h3
    simp [ints, gl, gi, List.getD, h3]
  · rename_i h3
    rw [ints_length] at h3
    simp [ints, gl, gi, List.getD, fl, h3]
theorem gi_out {p : List Int} {i : Nat} (h : p.length ≤ i) : gi p i = 0 := by simp [gi, List.getD, h]
/-! Add -/
def addF (n : Nat) (p q : List Int) : List Int := gl n fun i => Xa.add (gi p i) (gi q i)
theorem gi_fit {p : List Int} (hf : ∀ i, i < p.length → Fit (gi p i)) (i : Nat) : Fit (gi p i) := by
  by_cases h : i < p.length
  · exact hf i h
  · rw [gi_out (by omega)]; unfold Fit; omega
set_option maxHeartbeats 8000000 in
set_option maxRecDepth 100000 in
theorem padd_any (A B : Option Addr) (ca cb : Nat) (p q : List Int) (lp lq n : Nat) (hp : p.length = lp) (hq : q.length = lq) (hm : max lp lq = n) (hn : n ≤ 1000) (hfp : ∀ i, i < lp → Fit (gi p i)) (hfq : ∀ i, i < lq → Fit (gi q i)) (w : World) (hrp : Rd w A (ints p)) (hrq : Rd w B (ints q)) :
    Calls Try.prog 20 #[.slice A lp ca, .slice B lq cb] w (MkPost n (addF n p q) w) := by
  obtain ⟨i0, hi0, hz0, hz1, hz2⟩ := info_parts info_int2
  have hmk : i0.bytes * n ≤ 281474976710656 := by rw [hz2]; omega
  have hml : n ≤ maxLen := by unfold maxLen; omega
  have INF := Lib.hid (And.intro hi0 (And.intro hz0 (And.intro hz1 (And.intro hmk hml))))
  have HP := Lib.hid hrp
  have HQ := Lib.hid hrq
  have HFP := Lib.hid (gi_fit (p := p) (by rw [hp]; exact hfp))
  have HFQ := Lib.hid hfq
  have HM := Lib.hid hm
  have hmx : max (lp : Int) (lq : Int) = (n : Int) := by omega
  clear hi0 hz0 hz1 hz2 hmk hml hrp hrq hfp hfq hm
  go_enter Try.func20, Try.ntmps20
  go_upto_region 1 with fail
  go_wp2_with (first | (at_make; refine wpList_make_full _ rfl _ _ 22 rfl w.heap.size 3 i0 (.int .i64 0) 1 Try.underlying22 INF.out.1 INF.out.2.1 INF.out.2.2.1 _ _ _ _ n (by rfl) (by rfl) (by rfl) (by rfl) INF.out.2.2.2.1 INF.out.2.2.2.2 (Nat.le_refl _) ?_))
  intro w1 hown1 hg1
  have hI := ir_made (fun _ => 0) hown1
  have HB1 := Lib.hid (below_grown (Below.refl w.heap.size w) hg1 (fun k hk => by cases hk))
  have HH := Lib.hid hI.heap
  have HR1 := Lib.hid (HP.out.below (Nat.le_refl _) HB1.out)
  clear hown1 hg1 hI
  go_upto_region 2 with fail
  go_wp2_with (first | (refine wpList_copy_splice rfl (.tmp 14) (.tmp 15) 22 22 rfl 3 Try.underlying22 info_i1 (some ⟨w.heap.size, 0, none⟩) A n n lp ca (by rfl) (by rfl) w.heap.size 0 (ints (fl n 0 fun _ => 0)) 3 HH.out (ints p) (by rw [ints_length, hp]; have := HM.out; exact (Nat.min_eq_left (by omega)).symm) (copy_pos HR1.out) (by rw [ints_length, ints_length, fl_length]; have := HM.out; omega) (ints_one p) w.heap.size w HB1.out (Nat.le_refl _) ?_))
  intro w2 hg2 hB2
  have HI2 := Lib.hid (show IR w2 w.heap.size w.heap.size n (gl n (gi p)) from IR.of (by have := hg2.out; rwa [splice_gl (by have := HM.out; omega)] at this) (gl_length _ _) (Nat.le_refl _) INF.out.2.2.2.2)
  have HB2 := Lib.hid hB2
  clear hg2 hB2 HH HR1
  have HT2 := Lib.hid (fun w' (h : Below w.heap.size w w') => HQ.out.below (Nat.le_refl _) h)
  go_wp2_with fail
  go_loopw [19] (fun s19 wr => WoR w n w.heap.size (fun i => Xa.add (gi p i) (gi q i)) (gi p) s19 wr ∧ (intOf s19).toNat ≤ lq) (fun i _ => lq - (intOf i).toNat)
  case atStart => exact ⟨⟨0, by omega, rfl, HB2.out, by rw [gl_none]; exact HI2.out⟩, by simp [intOf]⟩
  case round =>
    obtain ⟨⟨k, hk, rfl, hB, hI⟩, hkq⟩ := hrel
    have hkq' : k ≤ lq := by simpa [intOf] using hkq
    clear hkq
    by_cases hlt : k < lq
    · have i3 : decide ((k : Int) < (lq : Int)) = true := decide_eq_true (by omega)
      have hkn : k < n := by have := HM.out; omega
      obtain ⟨bd, u, rfl, _, e1, e2⟩ := (HT2.out _ hB).at (k := k) (by rw [ints_length]; omega)
      rw [ints_at (by omega)] at e1
      cases e1
      have c1 := hI.cell hkn
      have f1 := hI.frozen k
      rw [gl_at hkn, show upto k (fun i => Xa.add (gi p i) (gi q i)) (gi p) k = gi p k by unfold upto; rw [if_neg (Nat.lt_irrefl _)]] at c1
      have hst := gl_step (n := n) (k := k) (f := fun i => Xa.add (gi p i) (gi q i)) (g := gi p) hkn
      have fa := HFP.out k
      have fb := HFQ.out k hlt
      have HX := Lib.hid (And.intro hB hI)
      have HST := Lib.hid hst
      obtain ⟨a, ha⟩ : ∃ a, gi p k = a := ⟨_, rfl⟩
      obtain ⟨b, hb⟩ : ∃ a, gi q k = a := ⟨_, rfl⟩
      obtain ⟨s, hs⟩ : ∃ s, Xa.add a b = s := ⟨_, rfl⟩
      rw [ha] at c1 fa
      rw [hb] at e2 fb
      have HS := Lib.hid (show Xa.add (gi p k) (gi q k) = s by rw [ha, hb]; exact hs)
      have C := Lib.hid (add_any a b fa.1 fa.2 fb.1 fb.2 wr)
      rw [hs] at C
      have j1 : (0 : Int) ≤ (k : Int) := by omega
      have j2 : (k : Int) < (lq : Int) := by omega
      have j3 : (k : Int) < (n : Int) := by omega
      clear hst ha hb hs hB hI fa fb
      go_wp2_with (first | (go_at_call 26; with_reducible refine C.out.mono ?_; rintro e w' ⟨rfl, rfl⟩))
      go_roundw
      case rel =>
        refine ⟨⟨k + 1, by omega, by go_num, HX.out.1.setCell (p := ⟨w.heap.size, k, none⟩) (Nat.le_refl _) _, ?_⟩, by simp [intOf]; omega⟩
        rw [← HST.out, HS.out]
        exact HX.out.2.set k s
      case measure => simp [intOf]; omega
    · have i3 : decide ((k : Int) < (lq : Int)) = false := decide_eq_false (by omega)
      have hkl : k = lq := by omega
      have hfin : gl n (upto k (fun i => Xa.add (gi p i) (gi q i)) (gi p)) = addF n p q := gl_congr fun i _ => by
        unfold upto
        by_cases hi : i < k
        · rw [if_pos hi]
        · rw [if_neg hi, gi_out (p := q) (by omega)]
          have := HFP.out i
          unfold Fit at this
          unfold Xa.add
          rw [if_neg (by omega), if_neg (by omega), Int.add_zero]
      rw [hfin] at hI
      have HX := Lib.hid (And.intro hI hB)
      clear hI hB hfin
      go_wp2_with fail
      go_ret
      exact ⟨_, rfl, HX.out⟩

/-! Give -/
noncomputable def giveF (p : List Int) (f t k : Int) : List Int :=
  if 0 < min k (hasF p f) ∧ 0 ≤ t ∧ t < (p.length : Int) ∧ f ≠ t then (p.set f.toNat (gi p f.toNat - min k (hasF p f))).set t.toNat (Xa.add (gi p t.toNat) (min k (hasF p f))) else p
set_option maxHeartbeats 8000000 in
set_option maxRecDepth 100000 in
theorem give_any (A : Option Addr) (c : Nat) (p : List Int) (n : Nat) (hp : p.length = n) (hn : n ≤ 1000) (hf : ∀ i, i < n → Fit (gi p i)) (f t k : Int) (w : World) (hr : Rd w A (ints p)) :
    Calls Try.prog 14 #[.slice A n c, .int .i64 f, .int .i64 t, .int .i64 k] w (MkPost n (giveF p f t k) w) := by
  obtain ⟨i0, hi0, hz0, hz1, hz2⟩ := info_parts info_int2
  have hmk : i0.bytes * n ≤ 281474976710656 := by rw [hz2]; omega
  have hml : n ≤ maxLen := by unfold maxLen; omega
  have INF := Lib.hid (And.intro hi0 (And.intro hz0 (And.intro hz1 (And.intro hmk hml))))
  have HP := Lib.hid hr
  have HF := Lib.hid hf
  unfold giveF
  obtain ⟨h, hh⟩ : ∃ h, hasF p f = h := ⟨_, rfl⟩
  obtain ⟨m, hm⟩ : ∃ m, min k h = m := ⟨_, rfl⟩
  rw [hh, hm]
  have HH := Lib.hid hh
  have HM := Lib.hid hm
  obtain ⟨x, hx⟩ : ∃ x, (if 0 < m ∧ 0 ≤ t ∧ t < (p.length : Int) ∧ f ≠ t then (p.set f.toNat (gi p f.toNat - m)).set t.toNat (Xa.add (gi p t.toNat) m) else p) = x := ⟨_, rfl⟩
  rw [hx]
  have HX := Lib.hid hx
  clear hi0 hz0 hz1 hz2 hmk hml hr hf hh hm hx
  go_enter Try.func14, Try.ntmps14
  go_upto_region 1 with fail
  go_wp2_with (first | (at_make; refine wpList_make_full _ rfl _ _ 22 rfl w.heap.size 3 i0 (.int .i64 0) 1 Try.underlying22 INF.out.1 INF.out.2.1 INF.out.2.2.1 _ _ _ _ n rfl rfl rfl rfl INF.out.2.2.2.1 INF.out.2.2.2.2 (Nat.le_refl _) ?_))
  intro w1 hown1 hg1
  have hI := ir_made (gi p) hown1
  have HB1 := Lib.hid (below_grown (Below.refl w.heap.size w) hg1 (fun k hk => by cases hk))
  have HHP := Lib.hid hI.heap
  have HR1 := Lib.hid (HP.out.below (Nat.le_refl _) HB1.out)
  clear hown1 hg1 hI
  go_upto_region 2 with fail
  go_wp2_with (first | (refine wpList_copy_splice rfl (.tmp 14) (.tmp 15) 22 22 rfl 3 Try.underlying22 info_i1 (some ⟨w.heap.size, 0, none⟩) A n n n c (by rfl) (by rfl) w.heap.size 0 (ints (fl n 0 (gi p))) 3 HHP.out (ints p) (by rw [ints_length, hp]; exact (Nat.min_self n).symm) (copy_pos HR1.out) (by rw [ints_length, ints_length, fl_length]; omega) (ints_one p) w.heap.size w HB1.out (Nat.le_refl _) ?_))
  intro w2 hg2 hB2
  have HI2 := Lib.hid (heap_ir (B := w.heap.size) hg2.out hp (Nat.le_refl _) INF.out.2.2.2.2)
  have HB2 := Lib.hid hB2
  clear hg2 hB2 HHP HR1
  have HC := Lib.hid (has_any A c p f (by omega) w2 (HP.out.below (Nat.le_refl _) HB2.out))
  rw [hp, HH.out] at HC
  have hm := HM.out
  go_upto_region 4 with (first | (go_at_call 28; with_reducible refine HC.out.mono ?_; rintro e w3 ⟨rfl, hb3⟩))
  have HB3 := Lib.hid (below_next HB2.out hb3)
  have HI3 := Lib.hid (HI2.out.next hb3)
  clear hb3 hm HC
  by_cases h1 : 0 < m
  case neg =>
    have t1 : decide (0 < m) = false := decide_eq_false h1
    have HE := Lib.hid (show p = x by rw [← HX.out, if_neg (fun h => h1 h.1)])
    go_wp2_with fail
    go_ret
    exact ⟨_, rfl, by rw [← HE.out]; exact HI3.out, HB3.out⟩
  have t1 : decide (0 < m) = true := decide_eq_true h1
  by_cases h2 : 0 ≤ t
  case neg =>
    have t2 : decide (0 ≤ t) = false := decide_eq_false h2
    have HE := Lib.hid (show p = x by rw [← HX.out, if_neg (fun h => h2 h.2.1)])
    go_wp2_with fail
    go_ret
    exact ⟨_, rfl, by rw [← HE.out]; exact HI3.out, HB3.out⟩
  have t2 : decide (0 ≤ t) = true := decide_eq_true h2
  by_cases h3 : t < (n : Int)
  case neg =>
    have t3 : decide (t < (n : Int)) = false := decide_eq_false h3
    have HE := Lib.hid (show p = x by rw [← HX.out, if_neg (fun h => h3 (by have := h.2.2.1; omega))])
    go_wp2_with fail
    go_ret
    exact ⟨_, rfl, by rw [← HE.out]; exact HI3.out, HB3.out⟩
  have t3 : decide (t < (n : Int)) = true := decide_eq_true h3
  by_cases h4 : f = t
  case pos =>
    have t4 : (f != t) = false := bne_eq_false_iff_eq.2 h4
    have HE := Lib.hid (show p = x by rw [← HX.out, if_neg (fun h => h.2.2.2 h4)])
    clear h4
    go_wp2_with fail
    go_ret
    exact ⟨_, rfl, by rw [← HE.out]; exact HI3.out, HB3.out⟩
  have t4 : (f != t) = true := bne_iff_ne.2 h4
  have hmh : m ≤ h := by have := HM.out; omega
  obtain ⟨i, rfl, hi, hip⟩ : ∃ i : Nat, f = (i : Int) ∧ i < n ∧ gi p i = h := by
    have e := HH.out
    unfold hasF at e
    split at e
    · rename_i hc
      exact ⟨f.toNat, by omega, by omega, e⟩
    · omega
  obtain ⟨j, rfl⟩ := Int.eq_ofNat_of_zero_le h2
  have hj : j < n := by omega
  have hij : i ≠ j := by omega
  have HE := Lib.hid (show (p.set i (gi p i - m)).set j (Xa.add (gi p j) m) = x by rw [← HX.out, if_pos ⟨h1, h2, by omega, h4⟩]; simp)
  have c1 := HI3.out.cell hi
  have f1 := HI3.out.frozen i
  have hfi := HF.out i hi
  have hfj := HF.out j hj
  have HS1 := Lib.hid (HI3.out.set i (gi p i - m))
  rw [hip] at c1 hfi HS1 HE
  have c2 := HS1.out.cell hj
  have f2 := HS1.out.frozen j
  rw [gi_set_other hij] at c2
  have HS2 := Lib.hid (HS1.out.set j (Xa.add (gi p j) m))
  rw [HE.out] at HS2
  have HB5 := Lib.hid ((HB3.out.setCell (p := ⟨w.heap.size, i, none⟩) (Nat.le_refl _) (.int .i64 (h - m))).setCell (p := ⟨w.heap.size, j, none⟩) (Nat.le_refl _) (.int .i64 (Xa.add (gi p j) m)))
  obtain ⟨b, hb⟩ : ∃ b, gi p j = b := ⟨_, rfl⟩
  rw [hb] at c2 hfj HS2 HB5
  unfold Fit at hfi
  have C := Lib.hid (add_any b m hfj.1 hfj.2 (by omega) (by omega) (w3.setCell ⟨w.heap.size, i, none⟩ (.int .i64 (h - m))))
  obtain ⟨s, hs⟩ : ∃ s, Xa.add b m = s := ⟨_, rfl⟩
  rw [hs] at C HS2 HB5
  have w0 : IntKind.i64.wrap (h - m) = h - m := IntWalk.i64_in _ (by omega)
  have j1 : (0 : Int) ≤ (i : Int) := by omega
  have j2 : (i : Int) < (n : Int) := by omega
  have j3 : (0 : Int) ≤ (j : Int) := by omega
  have j4 : (j : Int) < (n : Int) := by omega
  clear hb hs hip hfi hfj h1 h2 h4 hij
  go_upto_region 6 with fail
  go_upto_region 7 with (first | (go_at_call 26; with_reducible refine C.out.mono ?_; rintro e w' ⟨rfl, rfl⟩))
  go_wp2_with fail
  go_ret
  exact ⟨_, rfl, HS2.out, HB5.out⟩

end Go.Proofs.Ytfmnlnmajephlaa
