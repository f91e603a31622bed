/- SeepEncloses: the walk. -/
import Derived.Test.YtacjhenjagageaaSeepM
namespace Go.Proofs.Ytacjhenjagageaa
open Go.RowKit
set_option linter.unusedVariables false
set_option linter.unusedSimpArgs false

theorem clamp_in {n lo hi : Int} (h : lo ≤ hi) : lo ≤ Xa.clamp n lo hi ∧ Xa.clamp n lo hi ≤ hi := by
  unfold Xa.clamp
  by_cases h1 : n < lo
  · rw [if_pos h1]; omega
  · rw [if_neg h1]
    by_cases h2 : hi < n
    · rw [if_pos h2]; omega
    · rw [if_neg h2]; omega
theorem maybe_tell {m1 m2 : Int} (nm : ByteArray) (kind from' to' : Int) (r0 r1 r2 : Option Addr) (n0 n1 n2 c0 c1 c2 : Nat) (pos sp leak crest num den prime brk bnum bden delay : Int) (brk1 : -9223372036854775808 ≤ brk) (brk2 : brk ≤ 9223372036854775807) (plo phi tgt klo khi vlo vhi : Int) (h : maybeOpen kind prime brk klo khi vlo vhi = (m1, m2)) (w : World) :
    Calls Try.prog 16 #[.agg #[.string nm, .int .i64 kind, .int .i64 from', .int .i64 to', .slice r0 n0 c0, .slice r1 n1 c1, .slice r2 n2 c2, .int .i64 pos, .int .i64 sp, .int .i64 leak, .int .i64 crest, .int .i64 num, .int .i64 den, .int .i64 prime, .int .i64 brk, .int .i64 bnum, .int .i64 bden, .int .i64 delay], .agg #[.int .i64 plo, .int .i64 phi, .int .i64 tgt, .int .i64 klo, .int .i64 khi], .agg #[.int .i64 vlo, .int .i64 vhi]] w fun e w' => e = .returned (.agg #[.int .i64 plo, .int .i64 phi, .int .i64 tgt, .int .i64 m1, .int .i64 m2]) ∧ Below w.heap.size w w' := by
  have := maybe_any nm kind from' to' r0 r1 r2 n0 n1 n2 c0 c1 c2 pos sp leak crest num den prime brk bnum bden delay brk1 brk2 plo phi tgt klo khi vlo vhi w
  rwa [h] at this
theorem sip_tell3 (nm : ByteArray) (kind from' to' : Int) (r0 r1 r2 : Option Addr) (n0 n1 n2 c0 c1 c2 : Nat) (pos sp leak crest num den prime brk bnum bden delay : Int) (gp gt : Int) (gs go : Bool) (v : Int) (s : Bool) (h : sipOpen kind prime brk v go = s) (w : World) :
    Calls Try.prog 14 #[.agg #[.string nm, .int .i64 kind, .int .i64 from', .int .i64 to', .slice r0 n0 c0, .slice r1 n1 c1, .slice r2 n2 c2, .int .i64 pos, .int .i64 sp, .int .i64 leak, .int .i64 crest, .int .i64 num, .int .i64 den, .int .i64 prime, .int .i64 brk, .int .i64 bnum, .int .i64 bden, .int .i64 delay], .agg #[.int .i64 gp, .int .i64 gt, .bool gs, .bool go], .int .i64 v] w fun e w' => e = .returned (.agg #[.int .i64 gp, .int .i64 gt, .bool gs, .bool s]) ∧ Below w.heap.size w w' :=
  h ▸ siphon_any nm kind from' to' r0 r1 r2 n0 n1 n2 c0 c1 c2 pos sp leak crest num den prime brk bnum bden delay gp gt gs go v w
theorem has_tell3 {lo hi n : Int} {p : Bool} (h : (decide (lo ≤ n) && decide (n ≤ hi)) = p) (w : World) :
    Calls Try.prog 22 #[.agg #[.int .i64 lo, .int .i64 hi], .int .i64 n] w fun e w' => e = .returned (.bool p) ∧ Below w.heap.size w w' := h ▸ has_any lo hi n w

set_option maxHeartbeats 8000000 in
set_option maxRecDepth 100000 in
theorem enc20_walk (nm : ByteArray) (kind from' to' : Int) (r0 r1 r2 : Option Addr) (n0 n1 n2 c0 c1 c2 : Nat) (pos sp leak crest num den prime brk bnum bden delay : Int) (brk1 : -9223372036854775808 ≤ brk) (brk2 : brk ≤ 9223372036854775807) (a1 a2 b1 b2 x y : Int) (kp1 kp2 kt ko1 ko2 : Int) (op : Bool) (w : World) :
    Calls Try.prog 7 #[.agg #[.string nm, .int .i64 kind, .int .i64 from', .int .i64 to', .slice r0 n0 c0, .slice r1 n1 c1, .slice r2 n2 c2, .int .i64 pos, .int .i64 sp, .int .i64 leak, .int .i64 crest, .int .i64 num, .int .i64 den, .int .i64 prime, .int .i64 brk, .int .i64 bnum, .int .i64 bden, .int .i64 delay], .agg #[.int .i64 a1, .int .i64 a2], .agg #[.int .i64 b1, .int .i64 b2], .int .i64 x, .int .i64 y, .agg #[.int .i64 kp1, .int .i64 kp2, .int .i64 kt, .int .i64 ko1, .int .i64 ko2], .bool op] w fun e w' => e = .returned (.bool true) ∧ Below w.heap.size w w' := by
  obtain ⟨p1, hp1⟩ : ∃ p, (decide (0 ≤ a1) && decide (a2 ≤ 1125899906842624) && decide (a1 ≤ a2)) = p := ⟨_, rfl⟩
  obtain ⟨p2, hp2⟩ : ∃ p, (decide (0 ≤ b1) && decide (b2 ≤ 1125899906842624) && decide (b1 ≤ b2)) = p := ⟨_, rfl⟩
  have W1 := Lib.hid (fun w => within20_tell hp1 w)
  have W2 := Lib.hid (fun w => within20_tell hp2 w)
  have hin : p1 = true → p2 = true → (0 ≤ a1 ∧ a2 ≤ 1125899906842624 ∧ a1 ≤ a2) ∧ (0 ≤ b1 ∧ b2 ≤ 1125899906842624 ∧ b1 ≤ b2) := by
    intro e1 e2
    rw [e1] at hp1
    rw [e2] at hp2
    simp only [Bool.and_eq_true, decide_eq_true_eq] at hp1 hp2
    omega
  have HIN := Lib.hid hin
  clear hp1 hp2 hin
  obtain ⟨u, hu⟩ : ∃ u, Xa.clamp x a1 a2 = u := ⟨_, rfl⟩
  obtain ⟨v, hv⟩ : ∃ v, Xa.clamp y b1 b2 = v := ⟨_, rfl⟩
  have HU := Lib.hid hu
  have HV := Lib.hid hv
  clear hu hv
  have CU := Lib.hid (fun w => HU.out ▸ inside20_any a1 a2 x w)
  have CV := Lib.hid (fun w => HV.out ▸ inside20_any b1 b2 y w)
  have hgt := span_guardType
  have hst := span_stood
  have hgo := gate_open
  go_enter Try.func7, Try.ntmps7
  go_wp2_with fail
  refine rebase _ (fun V1 hV x1 => ?_)
  have HB1 := Lib.hid (bel_at hV (bel_alloc (bel_alloc (bel_alloc (bel_alloc (Below.refl w.heap.size w) _) _) _) _))
  have HR1 := Lib.hid (show V1.rangeAt w.heap.size 0 [.string nm, .int .i64 kind, .int .i64 from', .int .i64 to', .slice r0 n0 c0, .slice r1 n1 c1, .slice r2 n2 c2, .int .i64 pos, .int .i64 sp, .int .i64 leak, .int .i64 crest, .int .i64 num, .int .i64 den, .int .i64 prime, .int .i64 brk, .int .i64 bnum, .int .i64 bden, .int .i64 delay] by rw [hV]; exact World.rangeAt_alloc (World.rangeAt_alloc (World.rangeAt_alloc (range_new _ _ _) _) _) _)
  have HC1 := Lib.hid (Cs.at hV (((Cs.nil (w.alloc (.cells #[.string nm, .int .i64 kind, .int .i64 from', .int .i64 to', .slice r0 n0 c0, .slice r1 n1 c1, .slice r2 n2 c2, .int .i64 pos, .int .i64 sp, .int .i64 leak, .int .i64 crest, .int .i64 num, .int .i64 den, .int .i64 prime, .int .i64 brk, .int .i64 bnum, .int .i64 bden, .int .i64 delay] 26))).alloc 30 [.int .i64 a1, .int .i64 a2]).alloc 30 [.int .i64 b1, .int .i64 b2] |>.alloc 32 [.int .i64 kp1, .int .i64 kp2, .int .i64 kt, .int .i64 ko1, .int .i64 ko2]))
  have hu1 := HC1.out.bx
  simp only [Bx, newCells, join, World.size_alloc] at hu1
  clear hV
  have f1 := fun z : BelW V1 => BelW.range HR1.out z 1 _ rfl
  have f10 := fun z : BelW V1 => BelW.range HR1.out z 11 _ rfl
  have f11 := fun z : BelW V1 => BelW.range HR1.out z 12 _ rfl
  have f14 := fun z : BelW V1 => BelW.range HR1.out z 15 _ rfl
  have f15 := fun z : BelW V1 => BelW.range HR1.out z 16 _ rfl
  simp only [Nat.zero_add] at f1 f10 f11 f14 f15
  refine (bel_of (small_any _)).mono ?_
  rintro e w' ⟨rfl, y0, rfl⟩
  go_wp2_with fail
  refine (bel_of (W1.out _)).mono ?_
  rintro e w' ⟨rfl, y1, rfl⟩
  cases p1 with
  | false =>
    go_wp2_with fail
    go_ret
    exact ⟨rfl, below_next HB1.out y1.2⟩
  | true =>
  go_wp2_with fail
  refine (bel_of (W2.out _)).mono ?_
  rintro e w' ⟨rfl, y2, rfl⟩
  cases p2 with
  | false =>
    go_wp2_with fail
    go_ret
    exact ⟨rfl, below_next HB1.out y2.2⟩
  | true =>
  obtain ⟨⟨ha1, ha2, ha3⟩, ⟨hb1, hb2, hb3⟩⟩ := HIN.out (by trivial) (by trivial)
  by_cases hok : num ≤ den ∧ bnum ≤ bden
  · obtain ⟨k3, k4⟩ := hok
    have hu0 := clamp_in (n := x) ha3
    have hv0 := clamp_in (n := y) hb3
    rw [HU.out] at hu0
    rw [HV.out] at hv0
    obtain ⟨hu1', hu2'⟩ := hu0
    obtain ⟨hv1', hv2'⟩ := hv0
    have m1 : decide (askOf kind num den bnum bden a1 b2 ≤ askOf kind num den bnum bden u v) = true := decide_eq_true (askOf_mono k3 k4 ha1 hu1' (by omega) (by omega) hv2' hb2)
    have m2 : decide (askOf kind num den bnum bden u v ≤ askOf kind num den bnum bden a2 b1) = true := decide_eq_true (askOf_mono k3 k4 (by omega) hu2' ha2 hb1 hv1' (by omega))
    have m3 : (askOf kind num den bnum bden a1 b2 != askOf kind num den bnum bden a1 b2) = false := bne_self_eq_false _
    have m4 : (askOf kind num den bnum bden a2 b1 != askOf kind num den bnum bden a2 b1) = false := bne_self_eq_false _
    have B1 := Lib.hid hu1'
    have B2 := Lib.hid hu2'
    clear hv1' hv2' hu1' hu2'
    go_wp2_with fail
    refine (bel_of (CU.out _)).mono ?_
    rintro e w' ⟨rfl, y3, rfl⟩
    go_wp2_with fail
    refine (bel_of (CV.out _)).mono ?_
    rintro e w' ⟨rfl, y4, rfl⟩
    go_wp2_with (with_reducible refine wpList_load_g 26 _ (by with_reducible rfl) _ _ (by with_unfolding_all rfl) (by with_unfolding_all rfl) _ _ (BelW.range HR1.out _) Try.underlying26 (by with_unfolding_all rfl) (by kernel_rfl) ?_)
    refine (bel_of (bounds_any _ _ _ _ _ _ _ _ _ _ _ _ _ _ _ _ _ _ _ _ _ _ _ _ _ _ _ _ _)).mono ?_
    rintro e w' ⟨rfl, y5, rfl⟩
    go_upto_region 7 with fail
    refine wp_rebase _ (fun V2 hV x2 => ?_)
    have HB2 := Lib.hid (bel_at hV (bel_alloc (below_next HB1.out y5.2) _))
    have HC2 := Lib.hid (Cs.at hV ((HC1.out.below y5).alloc _ _))
    have HRm := Lib.hid (show V2.rangeAt w.heap.size 0 [.string nm, .int .i64 kind, .int .i64 from', .int .i64 to', .slice r0 n0 c0, .slice r1 n1 c1, .slice r2 n2 c2, .int .i64 pos, .int .i64 sp, .int .i64 leak, .int .i64 crest, .int .i64 num, .int .i64 den, .int .i64 prime, .int .i64 brk, .int .i64 bnum, .int .i64 bden, .int .i64 delay] by rw [hV]; exact World.rangeAt_alloc (BelW.range HR1.out y5) _)
    have hu2 := HC2.out.bx
    simp only [Bx, newCells, join, World.size_alloc] at hu2
    clear hV hu1 HR1 f1 f10 f11 f14 f15
    have HR1 := HRm
    clear HRm
    refine wp_region_belx (by kernel_rfl) (by kernel_rfl) ?_
    repeat (first | (with_reducible refine wpQuiet_load_g 26 _ (by with_reducible rfl) _ _ (by with_unfolding_all rfl) (by with_unfolding_all rfl) _ _ (rangeX HR1.out) Try.underlying26 (by with_unfolding_all rfl) (by kernel_rfl) ?_; simp only [Act.put, List.setIfInBounds_toArray, List.set_cons_succ, List.set_cons_zero]) | go_big_quiet_step ((first | (go_at_call 10; with_reducible exact bel_of (ask_any _ _ _ _ _ _ _ _ _ _ _ _ _ _ _ _ _ _ _ _ _ _ _ _ _ _ _)) | (go_at_call 12; with_reducible exact bel_of (bounds_any _ _ _ _ _ _ _ _ _ _ _ _ _ _ _ _ _ _ _ _ _ _ _ _ _ _ _ _ _)) | (go_at_call 22; with_reducible exact bel_of (has_any _ _ _ _)) | (go_at_call 20; with_reducible exact bel_of (within_any _ _ _ _ _)))))
    refine wpQuiet_nil ?_
    intro y6
    have f1 := fun z : BelW V2 => BelW.range HR1.out z 1 _ rfl
    simp only [Nat.zero_add] at f1
    obtain ⟨p, hp⟩ : ∃ p, (decide (ko1 ≤ oneB op) && decide (oneB op ≤ ko2)) = p := ⟨_, rfl⟩
    have PH := Lib.hid (fun w => has_tell3 hp w)
    have hin : p = true → hasB ko1 ko2 op = true := fun e => e ▸ hp
    have HP := Lib.hid hin
    clear hp hin
    cases op with
    | false =>
      go_wp2_with fail
      refine (bel_of (PH.out _)).mono ?_
      rintro e w' ⟨rfl, y7, rfl⟩
      cases p with
      | false =>
        go_wp2_with fail
        go_ret
        exact ⟨rfl, below_next HB2.out y7.2⟩
      | true =>
      by_cases hk : kind = 3
      · subst hk
        obtain ⟨s, hs⟩ : ∃ s, sipOpen 3 prime brk u false = s := ⟨_, rfl⟩
        have hS := Lib.hid hs
        have hmb := maybe_is (prime := prime) (brk := brk) (klo := ko1) (khi := ko2) (lo := a1) (hi := a2) (by omega) ⟨_, u, B1.out, B2.out, false, HP.out (by trivial), rfl⟩
        obtain ⟨o1, o2, hm⟩ : ∃ o1 o2, maybeOpen 3 prime brk ko1 ko2 a1 a2 = (o1, o2) := ⟨_, _, rfl⟩
        rw [hm] at hmb
        have hm3 := hmb.2.2 (oneB s) ⟨u, B1.out, B2.out, false, HP.out (by trivial), by rw [hs]⟩
        have hl : 0 ≤ o1 := by obtain ⟨_, _, _, b, _, e⟩ := hmb.1; simp only at e; rw [e]; exact (oneB_01 _).1
        have hh : o2 ≤ 1 := by obtain ⟨_, _, _, b, _, e⟩ := hmb.2.1; simp only at e; rw [e]; exact (oneB_01 _).2
        obtain ⟨hm4, hm5⟩ := hm3
        simp only at hm4 hm5
        have HM := Lib.hid hm
        clear hm hmb hs m1 m2 m3 m4
        have e1 : (kt == kt) = true := beq_self_eq_true kt
        have e2 : (kp1 == kp1) = true := beq_self_eq_true kp1
        have e3 : (kp2 == kp2) = true := beq_self_eq_true kp2
        have l1 : decide (0 ≤ o1) = true := decide_eq_true hl
        have l2 : decide (o2 ≤ 1) = true := decide_eq_true hh
        cases s with
        | false =>
          have l3 : decide (o1 ≤ 0) = true := decide_eq_true hm4
          have l4 : decide (0 ≤ o2) = true := decide_eq_true hm5
          go_wp2_with (with_reducible refine wpList_load_g 26 _ (by with_reducible rfl) _ _ (by with_unfolding_all rfl) (by with_unfolding_all rfl) _ _ (BelW.range HR1.out _) Try.underlying26 (by with_unfolding_all rfl) (by kernel_rfl) ?_)
          refine (bel_of (sip_tell3 _ _ _ _ _ _ _ _ _ _ _ _ _ _ _ _ _ _ _ _ _ _ _ _ _ _ _ _ _ _ hS.out _)).mono ?_
          rintro e w' ⟨rfl, y8, rfl⟩
          go_wp2_with (with_reducible refine wpList_load_g 26 _ (by with_reducible rfl) _ _ (by with_unfolding_all rfl) (by with_unfolding_all rfl) _ _ (BelW.range HR1.out _) Try.underlying26 (by with_unfolding_all rfl) (by kernel_rfl) ?_)
          refine (bel_of (maybe_tell _ _ _ _ _ _ _ _ _ _ _ _ _ _ _ _ _ _ _ _ _ _ _ _ brk1 brk2 _ _ _ _ _ _ _ HM.out _)).mono ?_
          rintro e w' ⟨rfl, y9, rfl⟩
          go_upto_region 18 with fail
          refine wp_rebase _ (fun V3 hV x3 => ?_)
          have HB3 := Lib.hid (bel_at hV (bel_alloc (below_next HB2.out y9.2) _))
          have HC3 := Lib.hid (Cs.at hV ((HC2.out.below y9).alloc _ _))
          have hu3 := HC3.out.bx
          simp only [Bx, newCells, join, World.size_alloc] at hu3
          clear hV hu2 f1
          go_wp2_with (go_at_call 22; (with_reducible refine (bel_of (has_any _ _ _ _)).mono ?_); rintro e w' ⟨rfl, z, rfl⟩)
          go_ret
          exact ⟨rfl, below_next HB3.out z.2⟩
        | true =>
          have l3 : decide (o1 ≤ 1) = true := decide_eq_true hm4
          have l4 : decide (1 ≤ o2) = true := decide_eq_true hm5
          go_wp2_with (with_reducible refine wpList_load_g 26 _ (by with_reducible rfl) _ _ (by with_unfolding_all rfl) (by with_unfolding_all rfl) _ _ (BelW.range HR1.out _) Try.underlying26 (by with_unfolding_all rfl) (by kernel_rfl) ?_)
          refine (bel_of (sip_tell3 _ _ _ _ _ _ _ _ _ _ _ _ _ _ _ _ _ _ _ _ _ _ _ _ _ _ _ _ _ _ hS.out _)).mono ?_
          rintro e w' ⟨rfl, y8, rfl⟩
          go_wp2_with (with_reducible refine wpList_load_g 26 _ (by with_reducible rfl) _ _ (by with_unfolding_all rfl) (by with_unfolding_all rfl) _ _ (BelW.range HR1.out _) Try.underlying26 (by with_unfolding_all rfl) (by kernel_rfl) ?_)
          refine (bel_of (maybe_tell _ _ _ _ _ _ _ _ _ _ _ _ _ _ _ _ _ _ _ _ _ _ _ _ brk1 brk2 _ _ _ _ _ _ _ HM.out _)).mono ?_
          rintro e w' ⟨rfl, y9, rfl⟩
          go_upto_region 18 with fail
          refine wp_rebase _ (fun V3 hV x3 => ?_)
          have HB3 := Lib.hid (bel_at hV (bel_alloc (below_next HB2.out y9.2) _))
          have HC3 := Lib.hid (Cs.at hV ((HC2.out.below y9).alloc _ _))
          have hu3 := HC3.out.bx
          simp only [Bx, newCells, join, World.size_alloc] at hu3
          clear hV hu2 f1
          go_wp2_with (go_at_call 22; (with_reducible refine (bel_of (has_any _ _ _ _)).mono ?_); rintro e w' ⟨rfl, z, rfl⟩)
          go_ret
          exact ⟨rfl, below_next HB3.out z.2⟩
      · have tk : (kind != 3) = true := bne_iff_ne.2 hk
        clear hk
        go_wp2_with fail
        go_ret
        exact ⟨rfl, below_next HB2.out y7.2⟩
    | true =>
      go_wp2_with fail
      refine (bel_of (PH.out _)).mono ?_
      rintro e w' ⟨rfl, y7, rfl⟩
      cases p with
      | false =>
        go_wp2_with fail
        go_ret
        exact ⟨rfl, below_next HB2.out y7.2⟩
      | true =>
      by_cases hk : kind = 3
      · subst hk
        obtain ⟨s, hs⟩ : ∃ s, sipOpen 3 prime brk u true = s := ⟨_, rfl⟩
        have hS := Lib.hid hs
        have hmb := maybe_is (prime := prime) (brk := brk) (klo := ko1) (khi := ko2) (lo := a1) (hi := a2) (by omega) ⟨_, u, B1.out, B2.out, true, HP.out (by trivial), rfl⟩
        obtain ⟨o1, o2, hm⟩ : ∃ o1 o2, maybeOpen 3 prime brk ko1 ko2 a1 a2 = (o1, o2) := ⟨_, _, rfl⟩
        rw [hm] at hmb
        have hm3 := hmb.2.2 (oneB s) ⟨u, B1.out, B2.out, true, HP.out (by trivial), by rw [hs]⟩
        have hl : 0 ≤ o1 := by obtain ⟨_, _, _, b, _, e⟩ := hmb.1; simp only at e; rw [e]; exact (oneB_01 _).1
        have hh : o2 ≤ 1 := by obtain ⟨_, _, _, b, _, e⟩ := hmb.2.1; simp only at e; rw [e]; exact (oneB_01 _).2
        obtain ⟨hm4, hm5⟩ := hm3
        simp only at hm4 hm5
        have HM := Lib.hid hm
        clear hm hmb hs m1 m2 m3 m4
        have e1 : (kt == kt) = true := beq_self_eq_true kt
        have e2 : (kp1 == kp1) = true := beq_self_eq_true kp1
        have e3 : (kp2 == kp2) = true := beq_self_eq_true kp2
        have l1 : decide (0 ≤ o1) = true := decide_eq_true hl
        have l2 : decide (o2 ≤ 1) = true := decide_eq_true hh
        cases s with
        | false =>
          have l3 : decide (o1 ≤ 0) = true := decide_eq_true hm4
          have l4 : decide (0 ≤ o2) = true := decide_eq_true hm5
          go_wp2_with (with_reducible refine wpList_load_g 26 _ (by with_reducible rfl) _ _ (by with_unfolding_all rfl) (by with_unfolding_all rfl) _ _ (BelW.range HR1.out _) Try.underlying26 (by with_unfolding_all rfl) (by kernel_rfl) ?_)
          refine (bel_of (sip_tell3 _ _ _ _ _ _ _ _ _ _ _ _ _ _ _ _ _ _ _ _ _ _ _ _ _ _ _ _ _ _ hS.out _)).mono ?_
          rintro e w' ⟨rfl, y8, rfl⟩
          go_wp2_with (with_reducible refine wpList_load_g 26 _ (by with_reducible rfl) _ _ (by with_unfolding_all rfl) (by with_unfolding_all rfl) _ _ (BelW.range HR1.out _) Try.underlying26 (by with_unfolding_all rfl) (by kernel_rfl) ?_)
          refine (bel_of (maybe_tell _ _ _ _ _ _ _ _ _ _ _ _ _ _ _ _ _ _ _ _ _ _ _ _ brk1 brk2 _ _ _ _ _ _ _ HM.out _)).mono ?_
          rintro e w' ⟨rfl, y9, rfl⟩
          go_upto_region 18 with fail
          refine wp_rebase _ (fun V3 hV x3 => ?_)
          have HB3 := Lib.hid (bel_at hV (bel_alloc (below_next HB2.out y9.2) _))
          have HC3 := Lib.hid (Cs.at hV ((HC2.out.below y9).alloc _ _))
          have hu3 := HC3.out.bx
          simp only [Bx, newCells, join, World.size_alloc] at hu3
          clear hV hu2 f1
          go_wp2_with (go_at_call 22; (with_reducible refine (bel_of (has_any _ _ _ _)).mono ?_); rintro e w' ⟨rfl, z, rfl⟩)
          go_ret
          exact ⟨rfl, below_next HB3.out z.2⟩
        | true =>
          have l3 : decide (o1 ≤ 1) = true := decide_eq_true hm4
          have l4 : decide (1 ≤ o2) = true := decide_eq_true hm5
          go_wp2_with (with_reducible refine wpList_load_g 26 _ (by with_reducible rfl) _ _ (by with_unfolding_all rfl) (by with_unfolding_all rfl) _ _ (BelW.range HR1.out _) Try.underlying26 (by with_unfolding_all rfl) (by kernel_rfl) ?_)
          refine (bel_of (sip_tell3 _ _ _ _ _ _ _ _ _ _ _ _ _ _ _ _ _ _ _ _ _ _ _ _ _ _ _ _ _ _ hS.out _)).mono ?_
          rintro e w' ⟨rfl, y8, rfl⟩
          go_wp2_with (with_reducible refine wpList_load_g 26 _ (by with_reducible rfl) _ _ (by with_unfolding_all rfl) (by with_unfolding_all rfl) _ _ (BelW.range HR1.out _) Try.underlying26 (by with_unfolding_all rfl) (by kernel_rfl) ?_)
          refine (bel_of (maybe_tell _ _ _ _ _ _ _ _ _ _ _ _ _ _ _ _ _ _ _ _ _ _ _ _ brk1 brk2 _ _ _ _ _ _ _ HM.out _)).mono ?_
          rintro e w' ⟨rfl, y9, rfl⟩
          go_upto_region 18 with fail
          refine wp_rebase _ (fun V3 hV x3 => ?_)
          have HB3 := Lib.hid (bel_at hV (bel_alloc (below_next HB2.out y9.2) _))
          have HC3 := Lib.hid (Cs.at hV ((HC2.out.below y9).alloc _ _))
          have hu3 := HC3.out.bx
          simp only [Bx, newCells, join, World.size_alloc] at hu3
          clear hV hu2 f1
          go_wp2_with (go_at_call 22; (with_reducible refine (bel_of (has_any _ _ _ _)).mono ?_); rintro e w' ⟨rfl, z, rfl⟩)
          go_ret
          exact ⟨rfl, below_next HB3.out z.2⟩
      · have tk : (kind != 3) = true := bne_iff_ne.2 hk
        clear hk
        go_wp2_with fail
        go_ret
        exact ⟨rfl, below_next HB2.out y7.2⟩
  · go_wp2_with fail
    all_goals
      first
      | (exfalso; omega)
      | (go_ret
         exact ⟨rfl, below_next HB1.out y2.2⟩)

end Go.Proofs.Ytacjhenjagageaa
