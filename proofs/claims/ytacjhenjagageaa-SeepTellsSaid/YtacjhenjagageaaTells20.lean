/- SeepTells: the walk. -/
import Derived.Test.YtacjhenjagageaaRefMa
import Derived.Test.YtacjhenjagageaaRefMb
import Derived.Test.YtacjhenjagageaaRefMc
namespace Go.Proofs.Ytacjhenjagageaa
open Go.RowKit
set_option linter.unusedVariables false
set_option linter.unusedSimpArgs false

theorem gate_stood : Try.prog.stoodInHeld 28 = false := by kernel_rfl
theorem gate_guardType : Try.prog.eqGuardType Try.prog.depth 28 = false := by kernel_rfl
theorem known_stood : Try.prog.stoodInHeld 32 = false := by kernel_rfl
theorem known_guardType : Try.prog.eqGuardType Try.prog.depth 32 = false := by kernel_rfl

set_option maxHeartbeats 2000000 in
theorem refmaybe_any (nm : ByteArray) (kind from' to' : Int) (r0 r1 r2 : Option Addr) (n0 n1 n2 c0 c1 c2 : Nat) (pos sp leak crest num den prime brk bnum bden delay : Int) (brk1 : -9223372036854775808 ≤ brk) (pr2 : prime ≤ 9223372036854775807) (plo phi tgt klo khi lo hi : Int) (hi2 : hi ≤ 9223372036854775807) (w : World) :
    Calls Try.prog 17 #[.agg #[.string nm, .int .i64 kind, .int .i64 from', .int .i64 to', .slice r0 n0 c0, .slice r1 n1 c1, .slice r2 n2 c2, .int .i64 pos, .int .i64 sp, .int .i64 leak, .int .i64 crest, .int .i64 num, .int .i64 den, .int .i64 prime, .int .i64 brk, .int .i64 bnum, .int .i64 bden, .int .i64 delay], .agg #[.int .i64 plo, .int .i64 phi, .int .i64 tgt, .int .i64 klo, .int .i64 khi], .agg #[.int .i64 lo, .int .i64 hi]] w (RefPost w plo phi tgt (maybeOpen kind prime brk klo khi lo hi)) := by
  by_cases hk : kind = 3
  · subst hk
    by_cases h : lo ≤ hi
    · by_cases ha : (klo ≤ 0 ∧ 0 ≤ khi) ∨ (klo ≤ 1 ∧ 1 ≤ khi)
      · by_cases h1 : khi = 0
        · exact refmaybe_l0 nm from' to' r0 r1 r2 n0 n1 n2 c0 c1 c2 pos sp leak crest num den prime brk bnum bden delay brk1 pr2 plo phi tgt klo khi lo hi hi2 h (by omega) h1 w
        · by_cases h2 : klo ≤ 0
          · exact refmaybe_lp nm from' to' r0 r1 r2 n0 n1 n2 c0 c1 c2 pos sp leak crest num den prime brk bnum bden delay brk1 pr2 plo phi tgt klo khi lo hi hi2 h h2 (by omega) w
          · exact refmaybe_1p nm from' to' r0 r1 r2 n0 n1 n2 c0 c1 c2 pos sp leak crest num den prime brk bnum bden delay brk1 pr2 plo phi tgt klo khi lo hi hi2 h (by omega) (by omega) w
      · have e : maybeOpen 3 prime brk klo khi lo hi = (klo, khi) := maybe_none hi2 (by
          rintro ⟨r, x, _, _, b, hb, _⟩
          unfold hasB at hb
          simp only [Bool.and_eq_true, decide_eq_true_eq] at hb
          cases b
          · exact ha (.inl hb)
          · exact ha (.inr hb))
        rw [e]
        by_cases h1 : klo ≤ 0
        · exact refmaybe_ln nm from' to' r0 r1 r2 n0 n1 n2 c0 c1 c2 pos sp leak crest num den prime brk bnum bden delay plo phi tgt klo khi lo hi h h1 (by omega) w
        · by_cases h2 : klo = 1
          · by_cases h3 : khi < 0
            · exact refmaybe_1n nm from' to' r0 r1 r2 n0 n1 n2 c0 c1 c2 pos sp leak crest num den prime brk bnum bden delay plo phi tgt klo khi lo hi h h2 h3 w
            · exact refmaybe_10 nm from' to' r0 r1 r2 n0 n1 n2 c0 c1 c2 pos sp leak crest num den prime brk bnum bden delay plo phi tgt klo khi lo hi h h2 (by omega) w
          · by_cases h3 : khi < 0
            · exact refmaybe_gn nm from' to' r0 r1 r2 n0 n1 n2 c0 c1 c2 pos sp leak crest num den prime brk bnum bden delay plo phi tgt klo khi lo hi h (by omega) h3 w
            · by_cases h4 : khi = 0
              · exact refmaybe_g0 nm from' to' r0 r1 r2 n0 n1 n2 c0 c1 c2 pos sp leak crest num den prime brk bnum bden delay plo phi tgt klo khi lo hi h (by omega) h4 w
              · exact refmaybe_gp nm from' to' r0 r1 r2 n0 n1 n2 c0 c1 c2 pos sp leak crest num den prime brk bnum bden delay plo phi tgt klo khi lo hi h (by omega) (by omega) w
    · have e : maybeOpen 3 prime brk klo khi lo hi = (klo, khi) := maybe_none hi2 (by
        rintro ⟨r, x, _, _, _⟩
        omega)
      rw [e]
      exact refmaybe_no nm 3 from' to' r0 r1 r2 n0 n1 n2 c0 c1 c2 pos sp leak crest num den prime brk bnum bden delay plo phi tgt klo khi lo hi (.inr (by omega)) w
  · have e : maybeOpen kind prime brk klo khi lo hi = (klo, khi) := if_neg hk
    rw [e]
    exact refmaybe_no nm kind from' to' r0 r1 r2 n0 n1 n2 c0 c1 c2 pos sp leak crest num den prime brk bnum bden delay plo phi tgt klo khi lo hi (.inl hk) w
theorem refmaybe_tell {m1 m2 : Int} (nm : ByteArray) (kind from' to' : Int) (r0 r1 r2 : Option Addr) (n0 n1 n2 c0 c1 c2 : Nat) (pos sp leak crest num den prime brk bnum bden delay : Int) (brk1 : -9223372036854775808 ≤ brk) (pr2 : prime ≤ 9223372036854775807) (plo phi tgt klo khi lo hi : Int) (hi2 : hi ≤ 9223372036854775807) (h : maybeOpen kind prime brk klo khi lo hi = (m1, m2)) (w : World) :
    Calls Try.prog 17 #[.agg #[.string nm, .int .i64 kind, .int .i64 from', .int .i64 to', .slice r0 n0 c0, .slice r1 n1 c1, .slice r2 n2 c2, .int .i64 pos, .int .i64 sp, .int .i64 leak, .int .i64 crest, .int .i64 num, .int .i64 den, .int .i64 prime, .int .i64 brk, .int .i64 bnum, .int .i64 bden, .int .i64 delay], .agg #[.int .i64 plo, .int .i64 phi, .int .i64 tgt, .int .i64 klo, .int .i64 khi], .agg #[.int .i64 lo, .int .i64 hi]] w fun e w' => e = .returned (.agg #[.int .i64 plo, .int .i64 phi, .int .i64 tgt, .int .i64 m1, .int .i64 m2]) ∧ Below w.heap.size w w' :=
  (refmaybe_any nm kind from' to' r0 r1 r2 n0 n1 n2 c0 c1 c2 pos sp leak crest num den prime brk bnum bden delay brk1 pr2 plo phi tgt klo khi lo hi hi2 w).mono fun _ _ ⟨a, b, h1, h2, h3⟩ => by
    rw [h] at h2
    cases h2
    exact ⟨h1, h3⟩
theorem maybe_tell4 {m1 m2 : Int} (nm : ByteArray) (kind from' to' : Int) (r0 r1 r2 : Option Addr) (n0 n1 n2 c0 c1 c2 : Nat) (pos sp leak crest num den prime brk bnum bden delay : Int) (brk1 : -9223372036854775808 ≤ brk) (brk2 : brk ≤ 9223372036854775807) (plo phi tgt klo khi vlo vhi : Int) (h : maybeOpen kind prime brk klo khi vlo vhi = (m1, m2)) (w : World) :
    Calls Try.prog 16 #[.agg #[.string nm, .int .i64 kind, .int .i64 from', .int .i64 to', .slice r0 n0 c0, .slice r1 n1 c1, .slice r2 n2 c2, .int .i64 pos, .int .i64 sp, .int .i64 leak, .int .i64 crest, .int .i64 num, .int .i64 den, .int .i64 prime, .int .i64 brk, .int .i64 bnum, .int .i64 bden, .int .i64 delay], .agg #[.int .i64 plo, .int .i64 phi, .int .i64 tgt, .int .i64 klo, .int .i64 khi], .agg #[.int .i64 vlo, .int .i64 vhi]] w fun e w' => e = .returned (.agg #[.int .i64 plo, .int .i64 phi, .int .i64 tgt, .int .i64 m1, .int .i64 m2]) ∧ Below w.heap.size w w' := by
  have := maybe_any nm kind from' to' r0 r1 r2 n0 n1 n2 c0 c1 c2 pos sp leak crest num den prime brk bnum bden delay brk1 brk2 plo phi tgt klo khi vlo vhi w
  rwa [h] at this

set_option maxHeartbeats 8000000 in
set_option maxRecDepth 100000 in
theorem tells20_walk (nm : ByteArray) (kind from' to' : Int) (r0 r1 r2 : Option Addr) (n0 n1 n2 c0 c1 c2 : Nat) (pos sp leak crest num den prime brk bnum bden delay : Int) (brk1 : -9223372036854775808 ≤ brk) (brk2 : brk ≤ 9223372036854775807) (pr2 : prime ≤ 9223372036854775807) (gp gt : Int) (gs go : Bool) (plo phi tgt klo khi : Int) (x1' x2' y1' y2' : Int) (hi2 : x2' ≤ 9223372036854775807) (w : World) :
    Calls Try.prog 3 #[.agg #[.string nm, .int .i64 kind, .int .i64 from', .int .i64 to', .slice r0 n0 c0, .slice r1 n1 c1, .slice r2 n2 c2, .int .i64 pos, .int .i64 sp, .int .i64 leak, .int .i64 crest, .int .i64 num, .int .i64 den, .int .i64 prime, .int .i64 brk, .int .i64 bnum, .int .i64 bden, .int .i64 delay], .agg #[.int .i64 gp, .int .i64 gt, .bool gs, .bool go], .agg #[.int .i64 plo, .int .i64 phi, .int .i64 tgt, .int .i64 klo, .int .i64 khi], .agg #[.int .i64 x1', .int .i64 x2'], .agg #[.int .i64 y1', .int .i64 y2']] w fun e w' => e = .returned (.bool true) ∧ Below w.heap.size w w' := by
  have s1 := span_guardType
  have s2 := span_stood
  have s3 := gate_guardType
  have s4 := gate_stood
  have s5 := known_guardType
  have s6 := known_stood
  obtain ⟨d1, h1⟩ : ∃ d, askOf kind num den bnum bden x1' y1' = d := ⟨_, rfl⟩
  obtain ⟨d2, h2⟩ : ∃ d, askOf kind num den bnum bden x1' y2' = d := ⟨_, rfl⟩
  obtain ⟨d3, h3⟩ : ∃ d, askOf kind num den bnum bden x2' y1' = d := ⟨_, rfl⟩
  obtain ⟨s, h4⟩ : ∃ s, sipOpen kind prime brk x1' go = s := ⟨_, rfl⟩
  obtain ⟨m1, m2, h5⟩ : ∃ m1 m2, maybeOpen kind prime brk klo khi x1' x2' = (m1, m2) := ⟨_, _, rfl⟩
  have A1 := Lib.hid (fun w => h1 ▸ ask_any nm kind from' to' r0 r1 r2 n0 n1 n2 c0 c1 c2 pos sp leak crest num den prime brk bnum bden delay x1' y1' w)
  have A2 := Lib.hid (fun w => h1 ▸ refask_any nm kind from' to' r0 r1 r2 n0 n1 n2 c0 c1 c2 pos sp leak crest num den prime brk bnum bden delay x1' y1' w)
  have B1 := Lib.hid (fun w => h2 ▸ h3 ▸ bounds_any nm kind from' to' r0 r1 r2 n0 n1 n2 c0 c1 c2 pos sp leak crest num den prime brk bnum bden delay x1' x2' y1' y2' w)
  have B2 := Lib.hid (fun w => h2 ▸ h3 ▸ refbounds_any nm kind from' to' r0 r1 r2 n0 n1 n2 c0 c1 c2 pos sp leak crest num den prime brk bnum bden delay x1' x2' y1' y2' w)
  have C1 := Lib.hid (fun w => h4 ▸ siphon_any nm kind from' to' r0 r1 r2 n0 n1 n2 c0 c1 c2 pos sp leak crest num den prime brk bnum bden delay gp gt gs go x1' w)
  have C2 := Lib.hid (fun w => h4 ▸ refsiphon_any nm kind from' to' r0 r1 r2 n0 n1 n2 c0 c1 c2 pos sp leak crest num den prime brk bnum bden delay gp gt gs go x1' w)
  have D1 := Lib.hid (maybe_tell4 nm kind from' to' r0 r1 r2 n0 n1 n2 c0 c1 c2 pos sp leak crest num den prime brk bnum bden delay brk1 brk2 plo phi tgt klo khi x1' x2' h5)
  have D2 := Lib.hid (refmaybe_tell nm kind from' to' r0 r1 r2 n0 n1 n2 c0 c1 c2 pos sp leak crest num den prime brk bnum bden delay brk1 pr2 plo phi tgt klo khi x1' x2' hi2 h5)
  clear h1 h2 h3 h4 h5
  have e1 : (d1 == d1) = true := beq_self_eq_true _
  have e2 : (d2 == d2) = true := beq_self_eq_true _
  have e3 : (d3 == d3) = true := beq_self_eq_true _
  have e4 : (s == s) = true := beq_self_eq_true _
  have e5 : (m1 == m1) = true := beq_self_eq_true _
  have e6 : (m2 == m2) = true := beq_self_eq_true _
  have e7 : (gp == gp) = true := beq_self_eq_true _
  have e8 : (gt == gt) = true := beq_self_eq_true _
  have e9 : (gs == gs) = true := beq_self_eq_true _
  have ea : (plo == plo) = true := beq_self_eq_true _
  have eb : (phi == phi) = true := beq_self_eq_true _
  have ec : (tgt == tgt) = true := beq_self_eq_true _
  go_enter Try.func3, Try.ntmps3
  go_wp2_with fail
  refine rebase _ (fun V1 hV x1 => ?_)
  have HB1 := Lib.hid (bel_at hV (bel_alloc (bel_alloc (bel_alloc (bel_alloc (bel_alloc (Below.refl w.heap.size w) _) _) _) _) _))
  have HR1 := Lib.hid (show V1.rangeAt w.heap.size 0 [.string nm, .int .i64 kind, .int .i64 from', .int .i64 to', .slice r0 n0 c0, .slice r1 n1 c1, .slice r2 n2 c2, .int .i64 pos, .int .i64 sp, .int .i64 leak, .int .i64 crest, .int .i64 num, .int .i64 den, .int .i64 prime, .int .i64 brk, .int .i64 bnum, .int .i64 bden, .int .i64 delay] by rw [hV]; exact World.rangeAt_alloc (World.rangeAt_alloc (World.rangeAt_alloc (World.rangeAt_alloc (range_new _ _ _) _) _) _) _)
  have HC1 := Lib.hid (Cs.at hV (((((Cs.nil (w.alloc (.cells #[.string nm, .int .i64 kind, .int .i64 from', .int .i64 to', .slice r0 n0 c0, .slice r1 n1 c1, .slice r2 n2 c2, .int .i64 pos, .int .i64 sp, .int .i64 leak, .int .i64 crest, .int .i64 num, .int .i64 den, .int .i64 prime, .int .i64 brk, .int .i64 bnum, .int .i64 bden, .int .i64 delay] 26))).alloc 28 [.int .i64 gp, .int .i64 gt, .bool gs, .bool go]).alloc 32 [.int .i64 plo, .int .i64 phi, .int .i64 tgt, .int .i64 klo, .int .i64 khi]).alloc 30 [.int .i64 x1', .int .i64 x2']).alloc 30 [.int .i64 y1', .int .i64 y2']))
  have hu1 := HC1.out.bx
  simp only [Bx, newCells, join, World.size_alloc] at hu1
  clear hV
  refine (bel_of (small_any _)).mono ?_
  rintro e w' ⟨rfl, y0, rfl⟩
  go_upto_region 2 with fail
  refine wp_region_belx (by kernel_rfl) (by kernel_rfl) ?_
  repeat (first | (with_reducible refine wpQuiet_load_g 26 _ (by with_reducible rfl) _ _ (by with_unfolding_all rfl) (by with_unfolding_all rfl) _ _ (rangeX HR1.out) Try.underlying26 (by with_unfolding_all rfl) (by kernel_rfl) ?_; simp only [Act.put, List.setIfInBounds_toArray, List.set_cons_succ, List.set_cons_zero]) | go_big_quiet_step ((first | (go_at_call 10; with_reducible exact bel_of (A1.out _)) | (go_at_call 11; with_reducible exact bel_of (A2.out _)) | (go_at_call 12; with_reducible exact bel_of (B1.out _)) | (go_at_call 13; with_reducible exact bel_of (B2.out _)) | (go_at_call 14; with_reducible exact bel_of (C1.out _)) | (go_at_call 15; with_reducible exact bel_of (C2.out _)) | (go_at_call 16; with_reducible exact bel_of (D1.out _)) | (go_at_call 17; with_reducible exact bel_of (D2.out _)))))
  refine wpQuiet_nil ?_
  intro y1
  go_wp2_with fail
  go_ret
  exact ⟨rfl, below_next HB1.out y1.2⟩

end Go.Proofs.Ytacjhenjagageaa
