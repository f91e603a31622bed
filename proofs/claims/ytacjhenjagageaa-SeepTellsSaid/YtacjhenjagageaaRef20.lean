/- The reference bourneref20. -/
import Derived.Test.YtacjhenjagageaaSeepM
import Derived.Test.YtacjhenjagageaaRefS
namespace Go.Proofs.Ytacjhenjagageaa
open Go.RowKit
set_option linter.unusedVariables false
set_option linter.unusedSimpArgs false

theorem refpart_any (v n d : Int) (w : World) :
    Calls Try.prog 26 #[.int .i64 v, .int .i64 n, .int .i64 d] w fun e w' => e = .returned (.int .i64 (partOf v n d)) ∧ w = w' := by
  have c := refscale_any v n d w
  have e : (Xa.scale v n d).1 = partOf v n d := by
    unfold partOf Xa.scale
    split <;> rfl
  rw [e] at c
  have C := Lib.hid c
  clear c e
  go_enter Try.func26, Try.ntmps26
  go_wp2_with (go_at_call 32; refine C.out.mono ?_; rintro e w' ⟨rfl, rfl⟩)
  go_ret
  exact ⟨rfl, rfl⟩

theorem refask_any (nm : ByteArray) (kind from' to' : Int) (r0 r1 r2 : Option Addr) (n0 n1 n2 c0 c1 c2 : Nat) (pos sp leak crest num den prime brk bnum bden delay : Int) (x y : Int) (w : World) :
    Calls Try.prog 11 #[.agg #[.string nm, .int .i64 kind, .int .i64 from', .int .i64 to', .slice r0 n0 c0, .slice r1 n1 c1, .slice r2 n2 c2, .int .i64 pos, .int .i64 sp, .int .i64 leak, .int .i64 crest, .int .i64 num, .int .i64 den, .int .i64 prime, .int .i64 brk, .int .i64 bnum, .int .i64 bden, .int .i64 delay], .int .i64 x, .int .i64 y] w fun e w' => e = .returned (.int .i64 (askOf kind num den bnum bden x y)) ∧ Below w.heap.size w w' := by
  unfold askOf
  by_cases h : kind = 4
  · subst h
    rw [if_pos rfl]
    obtain ⟨a1, a2⟩ := partOf_bd x num den
    obtain ⟨b1, b2⟩ := partOf_bd y bnum bden
    go_enter Try.func11, Try.ntmps11
    go_upto_region 3 with fail
    refine wp_rebase _ (fun V1 hV x1 => ?_)
    have HB1 := Lib.hid (bel_at hV (bel_alloc (Below.refl w.heap.size w) _))
    have HC1 := Lib.hid (Cs.at hV ((Cs.nil w).alloc _ _))
    have hu1 := HC1.out.bx
    simp only [Bx, newCells, join] at hu1
    clear hV
    refine wp_region_belx (by kernel_rfl) (by kernel_rfl) ?_
    repeat (go_big_quiet_step ((go_at_call 26; exact bel_of_same (refpart_any _ _ _ _))))
    refine wpQuiet_nil ?_
    intro y1
    go_wp2_with fail
    go_ret
    exact ⟨rfl, below_next HB1.out y1.2⟩
  · rw [if_neg h]
    have t1 : (kind != 4) = true := bne_iff_ne.2 h
    clear h
    go_enter Try.func11, Try.ntmps11
    go_wp2_with fail
    go_ret
    exact ⟨rfl, by go_grown⟩

set_option maxHeartbeats 2000000 in
theorem refbounds_any (nm : ByteArray) (kind from' to' : Int) (r0 r1 r2 : Option Addr) (n0 n1 n2 c0 c1 c2 : Nat) (pos sp leak crest num den prime brk bnum bden delay : Int) (a b c d : Int) (w : World) :
    Calls Try.prog 13 #[.agg #[.string nm, .int .i64 kind, .int .i64 from', .int .i64 to', .slice r0 n0 c0, .slice r1 n1 c1, .slice r2 n2 c2, .int .i64 pos, .int .i64 sp, .int .i64 leak, .int .i64 crest, .int .i64 num, .int .i64 den, .int .i64 prime, .int .i64 brk, .int .i64 bnum, .int .i64 bden, .int .i64 delay], .agg #[.int .i64 a, .int .i64 b], .agg #[.int .i64 c, .int .i64 d]] w fun e w' => e = .returned (.agg #[.int .i64 (askOf kind num den bnum bden a d), .int .i64 (askOf kind num den bnum bden b c)]) ∧ Below w.heap.size w w' := by
  go_enter Try.func13, Try.ntmps13
  go_upto_region 1 with fail
  refine wp_rebase _ (fun V hV x1 => ?_)
  have HB1 := Lib.hid (bel_at hV (bel_alloc (bel_alloc (bel_alloc (bel_alloc (Below.refl w.heap.size w) _) _) _) _))
  have HR1 := Lib.hid (show V.rangeAt w.heap.size 0 [.string nm, .int .i64 kind, .int .i64 from', .int .i64 to', .slice r0 n0 c0, .slice r1 n1 c1, .slice r2 n2 c2, .int .i64 pos, .int .i64 sp, .int .i64 leak, .int .i64 crest, .int .i64 num, .int .i64 den, .int .i64 prime, .int .i64 brk, .int .i64 bnum, .int .i64 bden, .int .i64 delay] by rw [hV]; exact World.rangeAt_alloc (World.rangeAt_alloc (World.rangeAt_alloc (range_new _ _ _) _) _) _)
  have HC1 := Lib.hid (Cs.at hV (((Cs.nil (w.alloc (.cells #[.string nm, .int .i64 kind, .int .i64 from', .int .i64 to', .slice r0 n0 c0, .slice r1 n1 c1, .slice r2 n2 c2, .int .i64 pos, .int .i64 sp, .int .i64 leak, .int .i64 crest, .int .i64 num, .int .i64 den, .int .i64 prime, .int .i64 brk, .int .i64 bnum, .int .i64 bden, .int .i64 delay] 26))).alloc 30 [.int .i64 a, .int .i64 b]).alloc 30 [.int .i64 c, .int .i64 d] |>.alloc 30 [.int .i64 0, .int .i64 0]))
  have HF1 := Lib.hid (show Fz V (w.heap.size + 1 + 1 + 1) by rw [hV]; exact Fz.new _ _ _ (by simp))
  have hu1 := HC1.out.bx
  simp only [Bx, newCells, join, World.size_alloc] at hu1
  clear hV
  have hg := HF1.out.bel
  refine wp_region_belt 13 (by kernel_rfl) (by kernel_rfl) ?_
  simp only [List.take_succ_cons, List.take_zero, List.drop_succ_cons, List.drop_zero]
  repeat (first | (with_reducible refine wpQuiet_load_g 26 _ (by with_reducible rfl) _ _ (by with_unfolding_all rfl) (by with_unfolding_all rfl) _ _ (rangeX HR1.out) Try.underlying26 (by with_unfolding_all rfl) (by kernel_rfl) ?_; simp only [Act.put, List.setIfInBounds_toArray, List.set_cons_succ, List.set_cons_zero]) | go_big_quiet_step ((go_at_call 11; exact bel_of (refask_any _ _ _ _ _ _ _ _ _ _ _ _ _ _ _ _ _ _ _ _ _ _ _ _ _ _ _))))
  refine wpQuiet_nil ?_
  intro y1
  go_wp2_with fail
  have hB : Below w.heap.size w y1.w := below_next HB1.out y1.2
  exact bodyPost_ret (v := .agg #[.int .i64 (askOf kind num den bnum bden a d), .int .i64 (askOf kind num den bnum bden b c)]) (by simp [results, Try.results13, go_sem, hu1]) rfl ⟨rfl, by go_grown⟩

theorem refsiphon_any (nm : ByteArray) (kind from' to' : Int) (r0 r1 r2 : Option Addr) (n0 n1 n2 c0 c1 c2 : Nat) (pos sp leak crest num den prime brk bnum bden delay : Int) (gp gt : Int) (gs go : Bool) (v : Int) (w : World) :
    Calls Try.prog 15 #[.agg #[.string nm, .int .i64 kind, .int .i64 from', .int .i64 to', .slice r0 n0 c0, .slice r1 n1 c1, .slice r2 n2 c2, .int .i64 pos, .int .i64 sp, .int .i64 leak, .int .i64 crest, .int .i64 num, .int .i64 den, .int .i64 prime, .int .i64 brk, .int .i64 bnum, .int .i64 bden, .int .i64 delay], .agg #[.int .i64 gp, .int .i64 gt, .bool gs, .bool go], .int .i64 v] w fun e w' => e = .returned (.agg #[.int .i64 gp, .int .i64 gt, .bool gs, .bool (sipOpen kind prime brk v go)]) ∧ Below w.heap.size w w' := by
  unfold sipOpen
  by_cases h : kind = 3
  · rw [if_pos h]
    have t1 : (kind != 3) = false := by subst h; rfl
    by_cases h1 : prime ≤ v
    · rw [if_pos h1]
      have t2 : decide (prime ≤ v) = true := decide_eq_true h1
      clear h h1
      go_enter Try.func15, Try.ntmps15
      go_wp2_with fail
      exact bodyPost_ret (v := .agg #[.int .i64 gp, .int .i64 gt, .bool gs, .bool true]) (by simp [results, Try.results15, go_sem]) rfl ⟨rfl, by go_grown⟩
    · rw [if_neg h1]
      have t2 : decide (prime ≤ v) = false := decide_eq_false h1
      by_cases h2 : v ≤ brk
      · rw [if_pos h2]
        have t3 : decide (v ≤ brk) = true := decide_eq_true h2
        clear h h1 h2
        go_enter Try.func15, Try.ntmps15
        go_wp2_with fail
        exact bodyPost_ret (v := .agg #[.int .i64 gp, .int .i64 gt, .bool gs, .bool false]) (by simp [results, Try.results15, go_sem]) rfl ⟨rfl, by go_grown⟩
      · rw [if_neg h2]
        have t3 : decide (v ≤ brk) = false := decide_eq_false h2
        clear h h1 h2
        go_enter Try.func15, Try.ntmps15
        go_wp2_with fail
        exact bodyPost_ret (v := .agg #[.int .i64 gp, .int .i64 gt, .bool gs, .bool go]) (by simp [results, Try.results15, go_sem]) rfl ⟨rfl, by go_grown⟩
  · rw [if_neg h]
    have t1 : (kind != 3) = true := bne_iff_ne.2 h
    clear h
    go_enter Try.func15, Try.ntmps15
    go_wp2_with fail
    exact bodyPost_ret (v := .agg #[.int .i64 gp, .int .i64 gt, .bool gs, .bool go]) (by simp [results, Try.results15, go_sem]) rfl ⟨rfl, by go_grown⟩

theorem middle_any (nm : ByteArray) (kind from' to' : Int) (r0 r1 r2 : Option Addr) (n0 n1 n2 c0 c1 c2 : Nat) (pos sp leak crest num den prime brk bnum bden delay : Int) (lo hi : Int) (h : brk < prime) (brk1 : -9223372036854775808 ≤ brk) (pr2 : prime ≤ 9223372036854775807) (w : World) :
    Calls Try.prog 29 #[.agg #[.string nm, .int .i64 kind, .int .i64 from', .int .i64 to', .slice r0 n0 c0, .slice r1 n1 c1, .slice r2 n2 c2, .int .i64 pos, .int .i64 sp, .int .i64 leak, .int .i64 crest, .int .i64 num, .int .i64 den, .int .i64 prime, .int .i64 brk, .int .i64 bnum, .int .i64 bden, .int .i64 delay], .agg #[.int .i64 lo, .int .i64 hi]] w fun e w' => e = .returned (.bool (decide (max lo (brk + 1) ≤ min hi (prime - 1)))) ∧ Below w.heap.size w w' := by
  go_enter Try.func29, Try.ntmps29
  go_wp2_with fail
  go_ret
  exact ⟨rfl, by go_grown⟩

/-- what Maybe knows, by cases -/
theorem maybe_ref {prime brk klo khi lo hi : Int} (h3 : hi ≤ 9223372036854775807) (h : lo ≤ hi) (hc : (klo ≤ 0 ∧ 0 ≤ khi) ∨ (klo ≤ 1 ∧ 1 ≤ khi)) :
    maybeOpen 3 prime brk klo khi lo hi =
      (if (lo ≤ brk ∧ lo < prime) ∨ (brk < prime ∧ max lo (brk + 1) ≤ min hi (prime - 1) ∧ klo ≤ 0 ∧ 0 ≤ khi) then 0 else 1,
       if prime ≤ hi ∨ (brk < prime ∧ max lo (brk + 1) ≤ min hi (prime - 1) ∧ klo ≤ 1 ∧ 1 ≤ khi) then 1 else 0) := by
  have hb0 : hasB klo khi false = true ↔ klo ≤ 0 ∧ 0 ≤ khi := by simp [hasB, oneB]
  have hb1 : hasB klo khi true = true ↔ klo ≤ 1 ∧ 1 ≤ khi := by simp [hasB, oneB]
  have hex : ∃ b, hasB klo khi b = true := hc.elim (fun h => ⟨false, hb0.2 h⟩) (fun h => ⟨true, hb1.2 h⟩)
  obtain ⟨b0, hb⟩ := hex
  have hsip : ∀ x b, sipOpen 3 prime brk x b = (if prime ≤ x then true else if x ≤ brk then false else b) := fun x b => if_pos rfl
  have Z : InV prime brk klo khi lo hi 0 ↔ (lo ≤ brk ∧ lo < prime) ∨ (brk < prime ∧ max lo (brk + 1) ≤ min hi (prime - 1) ∧ klo ≤ 0 ∧ 0 ≤ khi) := by
    constructor
    · rintro ⟨x, x1, x2, b, hbb, e⟩
      rw [hsip] at e
      by_cases c1 : prime ≤ x
      · rw [if_pos c1] at e; exact absurd e (by decide)
      · rw [if_neg c1] at e
        by_cases c2 : x ≤ brk
        · left; omega
        · rw [if_neg c2] at e
          cases b with
          | true => exact absurd e (by decide)
          | false => right; have := hb0.1 hbb; omega
    · rintro (h | h)
      · exact ⟨lo, Int.le_refl _, by omega, b0, hb, by rw [hsip, if_neg (by omega), if_pos (by omega)]; rfl⟩
      · exact ⟨max lo (brk + 1), by omega, by omega, false, hb0.2 (by omega), by rw [hsip, if_neg (by omega), if_neg (by omega)]; rfl⟩
  have O : InV prime brk klo khi lo hi 1 ↔ prime ≤ hi ∨ (brk < prime ∧ max lo (brk + 1) ≤ min hi (prime - 1) ∧ klo ≤ 1 ∧ 1 ≤ khi) := by
    constructor
    · rintro ⟨x, x1, x2, b, hbb, e⟩
      rw [hsip] at e
      by_cases c1 : prime ≤ x
      · left; omega
      · rw [if_neg c1] at e
        by_cases c2 : x ≤ brk
        · rw [if_pos c2] at e; exact absurd e (by decide)
        · rw [if_neg c2] at e
          cases b with
          | false => exact absurd e (by decide)
          | true => right; have := hb1.1 hbb; omega
    · rintro (h | h)
      · exact ⟨hi, by omega, Int.le_refl _, b0, hb, by rw [hsip, if_pos h]; rfl⟩
      · exact ⟨max lo (brk + 1), by omega, by omega, true, hb1.2 (by omega), by rw [hsip, if_neg (by omega), if_neg (by omega)]; rfl⟩
  have M := maybe_is (prime := prime) (brk := brk) (klo := klo) (khi := khi) (lo := lo) (hi := hi) h3 ⟨_, lo, Int.le_refl _, h, b0, hb, rfl⟩
  obtain ⟨m1, m2, hm⟩ : ∃ m1 m2, maybeOpen 3 prime brk klo khi lo hi = (m1, m2) := ⟨_, _, rfl⟩
  rw [hm] at M ⊢
  obtain ⟨M1, M2, M3⟩ := M
  simp only at M1 M2 M3
  have r1 : m1 = 0 ∨ m1 = 1 := by obtain ⟨_, _, _, b, _, e⟩ := M1; rw [e]; cases b0 <;> (generalize sipOpen 3 prime brk _ b = s; cases s <;> decide)
  have r2 : m2 = 0 ∨ m2 = 1 := by obtain ⟨_, _, _, b, _, e⟩ := M2; rw [e]; generalize sipOpen 3 prime brk _ b = s; cases s <;> decide
  refine Prod.ext ?_ ?_
  · show m1 = _
    by_cases hz : (lo ≤ brk ∧ lo < prime) ∨ (brk < prime ∧ max lo (brk + 1) ≤ min hi (prime - 1) ∧ klo ≤ 0 ∧ 0 ≤ khi)
    · rw [if_pos hz]; have := M3 0 (Z.2 hz); omega
    · rw [if_neg hz]
      rcases r1 with e | e
      · rw [e] at M1; exact absurd (Z.1 M1) hz
      · exact e
  · show m2 = _
    by_cases hz : prime ≤ hi ∨ (brk < prime ∧ max lo (brk + 1) ≤ min hi (prime - 1) ∧ klo ≤ 1 ∧ 1 ≤ khi)
    · rw [if_pos hz]; have := M3 1 (O.2 hz); omega
    · rw [if_neg hz]
      rcases r2 with e | e
      · exact e
      · rw [e] at M2; exact absurd (O.1 M2) hz

end Go.Proofs.Ytacjhenjagageaa
