/- The contract of seep.Maybe. -/
import Derived.Test.YtacjhenjagageaaMaybeA
import Derived.Sort.CutIn
import Derived.Outline
namespace Go.Proofs.Ytacjhenjagageaa
open Go.RowKit Go.Shelf
set_option linter.unusedVariables false
set_option linter.unusedSimpArgs false
attribute [local go_sem] Oper.semAt_some
attribute [local go_sem] wide_fn
theorem gate_open (g t : Int) (s o : Bool) (w : World) : (Instr.field 28 (.agg #[.int .i64 g, .int .i64 t, .bool s, .bool o]) 3).run Try.prog w = .ok (.bool o) w := by kernel_rfl
theorem bodyPostM_named {F : Fence} {n : Nat} {P : Program} {fn : Func} {R : Ending → World → Prop} {a : Act} (w : World) (h : ∀ W5 : World, W5 = w → bodyPostM F n P fn R .ret a W5) : bodyPostM F n P fn R .ret a w := h w rfl
theorem wide_fn_in (l : Nat) (f : FuncId) : (Fence.wide.inRound l).fn f ↔ True := ⟨fun _ => trivial, fun _ => trivial⟩
attribute [local go_sem] wide_fn_in

set_option maxRecDepth 100000 in
set_option maxHeartbeats 8000000 in
theorem maybe3_in (n : Nat) (hn : 4 ≤ n) (nm : ByteArray) (from' to' : Int) (r0 r1 r2 : Option Addr) (n0 n1 n2 c0 c1 c2 : Nat) (pos sp leak crest num den prime brk bnum bden delay : Int) (brk1 : -9223372036854775808 ≤ brk) (brk2 : brk ≤ 9223372036854775807) (plo phi tgt klo khi vlo vhi : Int) (w : World) :
    CallsIn Fence.wide n Try.prog 16 #[.agg #[.string nm, .int .i64 3, .int .i64 from', .int .i64 to', .slice r0 n0 c0, .slice r1 n1 c1, .slice r2 n2 c2, .int .i64 pos, .int .i64 sp, .int .i64 leak, .int .i64 crest, .int .i64 num, .int .i64 den, .int .i64 prime, .int .i64 brk, .int .i64 bnum, .int .i64 bden, .int .i64 delay], .agg #[.int .i64 plo, .int .i64 phi, .int .i64 tgt, .int .i64 klo, .int .i64 khi], .agg #[.int .i64 vlo, .int .i64 vhi]] w fun e w' =>
      e = .returned (.agg #[.int .i64 plo, .int .i64 phi, .int .i64 tgt, .int .i64 (maybeOpen 3 prime brk klo khi vlo vhi).1, .int .i64 (maybeOpen 3 prime brk klo khi vlo vhi).2]) ∧ Below w.heap.size w w' := by
  have h1 : 1 ≤ n := by omega
  obtain ⟨s1, s2, hr⟩ : ∃ s1 s2, maybeOpen 3 prime brk klo khi vlo vhi = (s1, s2) := ⟨_, _, rfl⟩
  rw [hr]
  have HR := Lib.hid hr
  clear hr
  refine callsIn_of_wp_marks Try.func16 rfl trivial ?_ rfl
  simp only [Try.ntmps16, List.size_toArray, List.length_cons, List.length_nil, Nat.reduceAdd, Nat.reduceSub, Array.replicate_succ, Array.replicate_zero, List.push_toArray, List.append_toArray, List.nil_append, List.cons_append]
  have HL0 := Lib.hid (World.rangeAt_alloc (World.rangeAt_alloc (World.rangeAt_alloc (World.rangeAt_alloc (World.rangeAt_alloc (range_new w 26 [.string nm, .int .i64 3, .int .i64 from', .int .i64 to', .slice r0 n0 c0, .slice r1 n1 c1, .slice r2 n2 c2, .int .i64 pos, .int .i64 sp, .int .i64 leak, .int .i64 crest, .int .i64 num, .int .i64 den, .int .i64 prime, .int .i64 brk, .int .i64 bnum, .int .i64 bden, .int .i64 delay]) (.cells #[.int .i64 plo, .int .i64 phi, .int .i64 tgt, .int .i64 klo, .int .i64 khi] 32)) (.cells #[.int .i64 vlo, .int .i64 vhi] 30)) (.cells #[.int .i64 0, .int .i64 0, .int .i64 0, .int .i64 0, .int .i64 0] 32)) (.cells #[.bool false] 4)) (.cells #[.int .i64 0, .int .i64 0] 30))
  gi_wp2_with (first | (refine wpListIn_load_mid (by rfl) 26 _ (by rfl) w.heap.size 0 (by rfl) [.string nm, .int .i64 3, .int .i64 from', .int .i64 to', .slice r0 n0 c0, .slice r1 n1 c1, .slice r2 n2 c2, .int .i64 pos, .int .i64 sp, .int .i64 leak, .int .i64 crest, .int .i64 num, .int .i64 den, .int .i64 prime, .int .i64 brk, .int .i64 bnum, .int .i64 bden, .int .i64 delay] _ HL0.out Try.underlying26 (by rfl) (by kernel_rfl) ?_) | (gi_at_call 27; refine (corners_in (n - 1) _ _ _ _ _ _ _ _ _ _ _ _ _ _ _ _ _ _ _ _ _ _ _ _ _ _ _).mono ?_; rintro e w' ⟨rfl, rfl⟩))
  refine wpIn_named _ (fun W0 hW0 => ?_)
  have hI0 := mayI_start w [.string nm, .int .i64 3, .int .i64 from', .int .i64 to', .slice r0 n0 c0, .slice r1 n1 c1, .slice r2 n2 c2, .int .i64 pos, .int .i64 sp, .int .i64 leak, .int .i64 crest, .int .i64 num, .int .i64 den, .int .i64 prime, .int .i64 brk, .int .i64 bnum, .int .i64 bden, .int .i64 delay] [.int .i64 plo, .int .i64 phi, .int .i64 tgt, .int .i64 klo, .int .i64 khi] rfl 26 32 32 4 30 (.cells #[.int .i64 vlo, .int .i64 vhi] 30) (.cells #[.string nm, .int .i64 3, .int .i64 from', .int .i64 to', .slice r0 n0 c0, .slice r1 n1 c1, .slice r2 n2 c2, .int .i64 pos, .int .i64 sp, .int .i64 leak, .int .i64 crest, .int .i64 num, .int .i64 den, .int .i64 prime, .int .i64 brk, .int .i64 bnum, .int .i64 bden, .int .i64 delay] 26) (.cells #[.int .i64 vlo, .int .i64 vhi] 30) (.int .i64 0) (.int .i64 0) (.int .i64 0) (.int .i64 0) (.int .i64 0)
  rw [← hW0] at hI0
  have v0 : W0.cell? ⟨w.heap.size + 1 + 1 + 1 + 1 + 1 + 1 + 1, 0, none⟩ = some (.int .i64 vlo) := by rw [hW0]; simp [go_sem]
  have v1 : W0.cell? ⟨w.heap.size + 1 + 1 + 1 + 1 + 1 + 1 + 1, 1, none⟩ = some (.int .i64 vhi) := by rw [hW0]; simp [go_sem]
  have c14 : W0.cell? ⟨w.heap.size + 1 + 1 + 1 + 1 + 1 + 1, 14, none⟩ = some (.int .i64 brk) := by rw [hW0]; simp [go_sem]
  have b6 : w.heap.size + 1 + 1 + 1 + 1 + 1 + 1 < W0.heap.size := World.block_lt_of_cell? W0 _ c14
  have b7 : w.heap.size + 1 + 1 + 1 + 1 + 1 + 1 + 1 < W0.heap.size := World.block_lt_of_cell? W0 _ v0
  clear hW0 HL0
  refine wpIn_rangeFunc_ownF rfl h1 (gf := 33) (lb := #[.pointer (some ⟨w.heap.size + 1 + 1 + 1 + 1 + 1 + 1 + 1, 0, none⟩), .pointer (some ⟨w.heap.size + 1 + 1 + 1 + 1 + 1 + 1, 0, none⟩)]) rfl trivial (enters_of Try.func33 (by kernel_rfl) rfl)
    (corners_stops (n - 1) (by omega) _ _ vlo vhi brk brk1 brk2 W0 v0 v1 c14) keepsTwo_t (keepsTwo_b b6 b7) (Below.refl _ _) (fun _ => rfl)
    (fun pre W => MayI w [.string nm, .int .i64 3, .int .i64 from', .int .i64 to', .slice r0 n0 c0, .slice r1 n1 c1, .slice r2 n2 c2, .int .i64 pos, .int .i64 sp, .int .i64 leak, .int .i64 crest, .int .i64 num, .int .i64 den, .int .i64 prime, .int .i64 brk, .int .i64 bnum, .int .i64 bden, .int .i64 delay] [.int .i64 plo, .int .i64 phi, .int .i64 tgt, .int .i64 klo, .int .i64 khi] (foldX 3 prime brk klo khi pre) W)
    (fun _ _ _ => False)
    (MayI.ownFrom (by omega) _)
    (fun _ _ _ _ _ hs _ _ => hs)
    hI0
    (fun x => { tmps := #[.agg #[.string nm, .int .i64 3, .int .i64 from', .int .i64 to', .slice r0 n0 c0, .slice r1 n1 c1, .slice r2 n2 c2, .int .i64 pos, .int .i64 sp, .int .i64 leak, .int .i64 crest, .int .i64 num, .int .i64 den, .int .i64 prime, .int .i64 brk, .int .i64 bnum, .int .i64 bden, .int .i64 delay], .agg #[.int .i64 plo, .int .i64 phi, .int .i64 tgt, .int .i64 klo, .int .i64 khi], .agg #[.int .i64 vlo, .int .i64 vhi], .pointer (some ⟨w.heap.size, 0, none⟩), .pointer (some ⟨w.heap.size + 1, 0, none⟩), .pointer (some ⟨w.heap.size + 1 + 1, 0, none⟩), .pointer (some ⟨w.heap.size + 1 + 1 + 1, 0, none⟩), .pointer (some ⟨w.heap.size + 1 + 1 + 1 + 1, 0, none⟩), .pointer (some ⟨w.heap.size + 1 + 1 + 1 + 1 + 1, 0, none⟩), .int .i64 x, undef, undef, .pointer (some ⟨w.heap.size, 1, none⟩), .int .i64 3, .bool false, undef, .agg #[.string nm, .int .i64 3, .int .i64 from', .int .i64 to', .slice r0 n0 c0, .slice r1 n1 c1, .slice r2 n2 c2, .int .i64 pos, .int .i64 sp, .int .i64 leak, .int .i64 crest, .int .i64 num, .int .i64 den, .int .i64 prime, .int .i64 brk, .int .i64 bnum, .int .i64 bden, .int .i64 delay], .agg #[.int .i64 vlo, .int .i64 vhi], .func (.func 33) #[] #[.pointer (some ⟨w.heap.size + 1 + 1 + 1 + 1 + 1 + 1 + 1, 0, none⟩), .pointer (some ⟨w.heap.size + 1 + 1 + 1 + 1 + 1 + 1, 0, none⟩)], .int .i64 x, undef, undef, undef, undef, undef, undef, undef, undef, undef, undef, undef, undef, undef, undef, undef, undef, undef, undef, undef, undef, undef, undef, undef, undef, undef, undef, undef], defers := [] }) ?assign ?body ?done ?stop
  case assign =>
    intro l x W K hK
    gi_wp2_with fail
    exact hK
  case body =>
    rintro l pre x W hI _
    have hbig := hI.big
    have hn2 : 1 ≤ n - 1 - 1 := by omega
    obtain ⟨st, hst⟩ : ∃ st, foldX 3 prime brk klo khi pre = st := ⟨_, rfl⟩
    rw [hst] at hI
    have HST := Lib.hid hst
    clear hst
    gi_wp2_with fail
    gi_loopw [20] (fun v wr => MayR w [.string nm, .int .i64 3, .int .i64 from', .int .i64 to', .slice r0 n0 c0, .slice r1 n1 c1, .slice r2 n2 c2, .int .i64 pos, .int .i64 sp, .int .i64 leak, .int .i64 crest, .int .i64 num, .int .i64 den, .int .i64 prime, .int .i64 brk, .int .i64 bnum, .int .i64 bden, .int .i64 delay] [.int .i64 plo, .int .i64 phi, .int .i64 tgt, .int .i64 klo, .int .i64 khi] 3 prime brk klo khi x st W v wr) (fun v _ => 2 - (intOf v).toNat)
    case atStart => exact ⟨0, .inl rfl, rfl, hI, KeepsOthers.refl _, fun o => ⟨rfl, rfl⟩⟩
    case round =>
      obtain ⟨k, hk, rfl, hJ, ho, ht⟩ := hrel
      rcases hk with rfl | rfl | rfl
      · obtain ⟨⟨f, a, b⟩, hst⟩ : ∃ t, stepK 3 prime brk klo khi x 0 st = t := ⟨_, rfl⟩
        have hnx : stepK 3 prime brk klo khi x 1 st = stepB 3 prime brk klo khi x false (f, a, b) := by rw [← hst]; rfl
        rw [hst] at hJ
        clear hst
        obtain ⟨p, hp⟩ : ∃ p, (decide (klo ≤ 0) && decide (0 ≤ khi)) = p := ⟨_, rfl⟩
        obtain ⟨s, hs⟩ : ∃ s, sipOpen 3 prime brk x false = s := ⟨_, rfl⟩
        have HN : Hid (stepK 3 prime brk klo khi x 1 st = if p = true then (if f = true then (true, min a (oneB s), max b (oneB s)) else (true, oneB s, oneB s)) else (f, a, b)) := by
          rw [hnx, ← hp, ← hs]
          exact Lib.hid rfl
        have HP := Lib.hid hp
        have HS := Lib.hid hs
        clear hp hs hnx
        have k3 : wr.cell? ⟨w.heap.size + 1, 3, none⟩ = some (.int .i64 klo) := hJ.known 3 _ rfl
        have k4 : wr.cell? ⟨w.heap.size + 1, 4, none⟩ = some (.int .i64 khi) := hJ.known 4 _ rfl
        gi_wp2_with fail
        refine (CallsIn.inRound l (callsIn_wide.2 (has_tell' HP.out _))).mono ?_
        rintro e W1 ⟨rfl, hb1⟩
        have hJ1 := hJ.below' hb1
        have ho1 := ho.trans (KeepsOthers.of_grownBy (grownBy_of_below hb1) (fun j o e => by cases e))
        have ht1 := keepsTwo_t ht (keepsTwo_below hb1 (by have := hJ.big; omega) (by have := hJ.big; omega))
        clear k3 k4 hb1 hJ ho ht
        cases p with
        | false =>
          gi_wp2_with fail
          go_roundw
          case rel => exact ⟨1, by decide, rfl, by rw [HN.out, if_neg (by decide)]; exact hJ1, ho1, ht1⟩
          case measure => decide
        | true =>
          gi_wp2_with (refine wpListIn_load_mid (by rfl) 26 _ (by rfl) w.heap.size 0 (by rfl) [.string nm, .int .i64 3, .int .i64 from', .int .i64 to', .slice r0 n0 c0, .slice r1 n1 c1, .slice r2 n2 c2, .int .i64 pos, .int .i64 sp, .int .i64 leak, .int .i64 crest, .int .i64 num, .int .i64 den, .int .i64 prime, .int .i64 brk, .int .i64 bnum, .int .i64 bden, .int .i64 delay] _ hJ1.link Try.underlying26 (by rfl) (by kernel_rfl) ?_)
          refine (CallsIn.inRound l (callsIn_wide.2 (sip_tell nm 3 from' to' r0 r1 r2 n0 n1 n2 c0 c1 c2 pos sp leak crest num den prime brk bnum bden delay 0 0 false false x s HS.out _))).mono ?_
          rintro e W2 ⟨rfl, hb2⟩
          have hJ2 := hJ1.below' hb2
          have ho2 := ho1.trans (KeepsOthers.of_grownBy (grownBy_of_below hb2) (fun j o e => by cases e))
          have ht2 := keepsTwo_t ht1 (keepsTwo_below hb2 (by have := hJ1.big; omega) (by have := hJ1.big; omega))
          clear hb2 hJ1 ho1 ht1
          have cf := hJ2.found
          have q0 := hJ2.lo
          have q1 := hJ2.hi
          have hgo := gate_open
          have g0 : W2.frozen? ⟨w.heap.size + 1 + 1 + 1 + 1 + 1, 0, none⟩ = false := (hJ2.openW 0 (by decide)).2
          have g1 : W2.frozen? ⟨w.heap.size + 1 + 1 + 1 + 1 + 1, 1, none⟩ = false := (hJ2.openW 1 (by decide)).2
          have gf : W2.frozen? ⟨w.heap.size + 1 + 1 + 1 + 1, 0, none⟩ = false := (hJ2.foundW 0 (by decide)).2
          cases s with
          | false =>
            cases f with
            | false =>
              gi_wp2_with fail
              refine (CallsIn.inRound l (callsIn_wide.2 (of_any _ _))).mono ?_
              rintro e W3 ⟨rfl, hb3⟩
              have hJ3 := hJ2.below' hb3
              have ho3 := ho2.trans (KeepsOthers.of_grownBy (grownBy_of_below hb3) (fun j o e => by cases e))
              have ht3 := keepsTwo_t ht2 (keepsTwo_below hb3 (by have := hJ2.big; omega) (by have := hJ2.big; omega))
              clear hb3 hJ2 ho2 ht2 cf q0 q1 g0 g1 gf
              have cf := hJ3.found
              have q0 := hJ3.lo
              have q1 := hJ3.hi
              have g0 : W3.frozen? ⟨w.heap.size + 1 + 1 + 1 + 1 + 1, 0, none⟩ = false := (hJ3.openW 0 (by decide)).2
              have g1 : W3.frozen? ⟨w.heap.size + 1 + 1 + 1 + 1 + 1, 1, none⟩ = false := (hJ3.openW 1 (by decide)).2
              have gf : W3.frozen? ⟨w.heap.size + 1 + 1 + 1 + 1, 0, none⟩ = false := (hJ3.foundW 0 (by decide)).2
              gi_wp2_with fail
              go_roundw
              case rel => exact ⟨1, by decide, rfl, by have e := HN.out; simp [oneB] at e; rw [e]; exact (hJ3.opened 0 0).foundT, ((ho3.trans (KeepsOthers.setCell _ _ _)).trans (KeepsOthers.setCell _ _ _)).trans (KeepsOthers.setCell _ _ _), keepsTwo_t (keepsTwo_t (keepsTwo_t ht3 (keepsTwo_set _ _ _ (by simp) (by simp))) (keepsTwo_set _ _ _ (by simp) (by simp))) (keepsTwo_set _ _ _ (by simp) (by simp))⟩
              case measure => decide
            | true =>
              gi_wp2_with fail
              have hJd := hJ2.drew
              have hod := ho2.trans (KeepsOthers.drew _)
              have hm := (by kernel_rfl : Try.prog.follows .mixedOrders = true)
              gi_region_with_o ((first | (gi_at_call 24; refine (CallsIn.inRound l (callsIn_wide.2 (of_any _ _))).mono ?_; rintro e W3 ⟨rfl, hb3⟩; have hJ3 := hJd.below' hb3; have q0' := hJ3.lo; have q1' := hJ3.hi) | (gi_at_call 28; refine (CallsIn.inRound l (callsIn_wide.2 (join_any _ _ _ _ _))).mono ?_; rintro e W4 ⟨rfl, hb4⟩; have hJ4 := hJ3.below' hb4; have g0' : W4.frozen? ⟨w.heap.size + 1 + 1 + 1 + 1 + 1, 0, none⟩ = false := (hJ4.openW 0 (by decide)).2; have g1' : W4.frozen? ⟨w.heap.size + 1 + 1 + 1 + 1 + 1, 1, none⟩ = false := (hJ4.openW 1 (by decide)).2; have q0'' := hJ4.lo; have q1'' := hJ4.hi)))
              all_goals
                have ho4 := (hod.trans (KeepsOthers.of_grownBy (grownBy_of_below hb3) (fun j o e => by cases e))).trans (KeepsOthers.of_grownBy (grownBy_of_below hb4) (fun j o e => by cases e))
                have ht4 := keepsTwo_t (keepsTwo_t ht2 (keepsTwo_below (W := W2.drew) hb3 (by have := hJd.big; omega) (by have := hJd.big; omega))) (keepsTwo_below hb4 (by have := hJ3.big; omega) (by have := hJ3.big; omega))
                gi_wp2_with fail
                go_roundw
                case rel => exact ⟨1, by decide, rfl, by have e := HN.out; simp [oneB] at e; rw [e]; exact hJ4.opened _ _, (ho4.trans (KeepsOthers.setCell _ _ _)).trans (KeepsOthers.setCell _ _ _), keepsTwo_t (keepsTwo_t ht4 (keepsTwo_set _ _ _ (by simp) (by simp))) (keepsTwo_set _ _ _ (by simp) (by simp))⟩
                case measure => decide
          | true =>
            cases f with
            | false =>
              gi_wp2_with fail
              refine (CallsIn.inRound l (callsIn_wide.2 (of_any _ _))).mono ?_
              rintro e W3 ⟨rfl, hb3⟩
              have hJ3 := hJ2.below' hb3
              have ho3 := ho2.trans (KeepsOthers.of_grownBy (grownBy_of_below hb3) (fun j o e => by cases e))
              have ht3 := keepsTwo_t ht2 (keepsTwo_below hb3 (by have := hJ2.big; omega) (by have := hJ2.big; omega))
              clear hb3 hJ2 ho2 ht2 cf q0 q1 g0 g1 gf
              have cf := hJ3.found
              have q0 := hJ3.lo
              have q1 := hJ3.hi
              have g0 : W3.frozen? ⟨w.heap.size + 1 + 1 + 1 + 1 + 1, 0, none⟩ = false := (hJ3.openW 0 (by decide)).2
              have g1 : W3.frozen? ⟨w.heap.size + 1 + 1 + 1 + 1 + 1, 1, none⟩ = false := (hJ3.openW 1 (by decide)).2
              have gf : W3.frozen? ⟨w.heap.size + 1 + 1 + 1 + 1, 0, none⟩ = false := (hJ3.foundW 0 (by decide)).2
              gi_wp2_with fail
              go_roundw
              case rel => exact ⟨1, by decide, rfl, by have e := HN.out; simp [oneB] at e; rw [e]; exact (hJ3.opened 1 1).foundT, ((ho3.trans (KeepsOthers.setCell _ _ _)).trans (KeepsOthers.setCell _ _ _)).trans (KeepsOthers.setCell _ _ _), keepsTwo_t (keepsTwo_t (keepsTwo_t ht3 (keepsTwo_set _ _ _ (by simp) (by simp))) (keepsTwo_set _ _ _ (by simp) (by simp))) (keepsTwo_set _ _ _ (by simp) (by simp))⟩
              case measure => decide
            | true =>
              gi_wp2_with fail
              have hJd := hJ2.drew
              have hod := ho2.trans (KeepsOthers.drew _)
              have hm := (by kernel_rfl : Try.prog.follows .mixedOrders = true)
              gi_region_with_o ((first | (gi_at_call 24; refine (CallsIn.inRound l (callsIn_wide.2 (of_any _ _))).mono ?_; rintro e W3 ⟨rfl, hb3⟩; have hJ3 := hJd.below' hb3; have q0' := hJ3.lo; have q1' := hJ3.hi) | (gi_at_call 28; refine (CallsIn.inRound l (callsIn_wide.2 (join_any _ _ _ _ _))).mono ?_; rintro e W4 ⟨rfl, hb4⟩; have hJ4 := hJ3.below' hb4; have g0' : W4.frozen? ⟨w.heap.size + 1 + 1 + 1 + 1 + 1, 0, none⟩ = false := (hJ4.openW 0 (by decide)).2; have g1' : W4.frozen? ⟨w.heap.size + 1 + 1 + 1 + 1 + 1, 1, none⟩ = false := (hJ4.openW 1 (by decide)).2; have q0'' := hJ4.lo; have q1'' := hJ4.hi)))
              all_goals
                have ho4 := (hod.trans (KeepsOthers.of_grownBy (grownBy_of_below hb3) (fun j o e => by cases e))).trans (KeepsOthers.of_grownBy (grownBy_of_below hb4) (fun j o e => by cases e))
                have ht4 := keepsTwo_t (keepsTwo_t ht2 (keepsTwo_below (W := W2.drew) hb3 (by have := hJd.big; omega) (by have := hJd.big; omega))) (keepsTwo_below hb4 (by have := hJ3.big; omega) (by have := hJ3.big; omega))
                gi_wp2_with fail
                go_roundw
                case rel => exact ⟨1, by decide, rfl, by have e := HN.out; simp [oneB] at e; rw [e]; exact hJ4.opened _ _, (ho4.trans (KeepsOthers.setCell _ _ _)).trans (KeepsOthers.setCell _ _ _), keepsTwo_t (keepsTwo_t ht4 (keepsTwo_set _ _ _ (by simp) (by simp))) (keepsTwo_set _ _ _ (by simp) (by simp))⟩
                case measure => decide
      · obtain ⟨⟨f, a, b⟩, hst⟩ : ∃ t, stepK 3 prime brk klo khi x 1 st = t := ⟨_, rfl⟩
        have hnx : stepK 3 prime brk klo khi x 2 st = stepB 3 prime brk klo khi x true (f, a, b) := by rw [← hst]; rfl
        rw [hst] at hJ
        clear hst
        obtain ⟨p, hp⟩ : ∃ p, (decide (klo ≤ 1) && decide (1 ≤ khi)) = p := ⟨_, rfl⟩
        obtain ⟨s, hs⟩ : ∃ s, sipOpen 3 prime brk x true = s := ⟨_, rfl⟩
        have HN : Hid (stepK 3 prime brk klo khi x 2 st = if p = true then (if f = true then (true, min a (oneB s), max b (oneB s)) else (true, oneB s, oneB s)) else (f, a, b)) := by
          rw [hnx, ← hp, ← hs]
          exact Lib.hid rfl
        have HP := Lib.hid hp
        have HS := Lib.hid hs
        clear hp hs hnx
        have k3 : wr.cell? ⟨w.heap.size + 1, 3, none⟩ = some (.int .i64 klo) := hJ.known 3 _ rfl
        have k4 : wr.cell? ⟨w.heap.size + 1, 4, none⟩ = some (.int .i64 khi) := hJ.known 4 _ rfl
        gi_wp2_with fail
        refine (CallsIn.inRound l (callsIn_wide.2 (has_tell' HP.out _))).mono ?_
        rintro e W1 ⟨rfl, hb1⟩
        have hJ1 := hJ.below' hb1
        have ho1 := ho.trans (KeepsOthers.of_grownBy (grownBy_of_below hb1) (fun j o e => by cases e))
        have ht1 := keepsTwo_t ht (keepsTwo_below hb1 (by have := hJ.big; omega) (by have := hJ.big; omega))
        clear k3 k4 hb1 hJ ho ht
        cases p with
        | false =>
          gi_wp2_with fail
          go_roundw
          case rel => exact ⟨2, by decide, rfl, by rw [HN.out, if_neg (by decide)]; exact hJ1, ho1, ht1⟩
          case measure => decide
        | true =>
          gi_wp2_with (refine wpListIn_load_mid (by rfl) 26 _ (by rfl) w.heap.size 0 (by rfl) [.string nm, .int .i64 3, .int .i64 from', .int .i64 to', .slice r0 n0 c0, .slice r1 n1 c1, .slice r2 n2 c2, .int .i64 pos, .int .i64 sp, .int .i64 leak, .int .i64 crest, .int .i64 num, .int .i64 den, .int .i64 prime, .int .i64 brk, .int .i64 bnum, .int .i64 bden, .int .i64 delay] _ hJ1.link Try.underlying26 (by rfl) (by kernel_rfl) ?_)
          refine (CallsIn.inRound l (callsIn_wide.2 (sip_tell nm 3 from' to' r0 r1 r2 n0 n1 n2 c0 c1 c2 pos sp leak crest num den prime brk bnum bden delay 0 0 false true x s HS.out _))).mono ?_
          rintro e W2 ⟨rfl, hb2⟩
          have hJ2 := hJ1.below' hb2
          have ho2 := ho1.trans (KeepsOthers.of_grownBy (grownBy_of_below hb2) (fun j o e => by cases e))
          have ht2 := keepsTwo_t ht1 (keepsTwo_below hb2 (by have := hJ1.big; omega) (by have := hJ1.big; omega))
          clear hb2 hJ1 ho1 ht1
          have cf := hJ2.found
          have q0 := hJ2.lo
          have q1 := hJ2.hi
          have hgo := gate_open
          have g0 : W2.frozen? ⟨w.heap.size + 1 + 1 + 1 + 1 + 1, 0, none⟩ = false := (hJ2.openW 0 (by decide)).2
          have g1 : W2.frozen? ⟨w.heap.size + 1 + 1 + 1 + 1 + 1, 1, none⟩ = false := (hJ2.openW 1 (by decide)).2
          have gf : W2.frozen? ⟨w.heap.size + 1 + 1 + 1 + 1, 0, none⟩ = false := (hJ2.foundW 0 (by decide)).2
          cases s with
          | false =>
            cases f with
            | false =>
              gi_wp2_with fail
              refine (CallsIn.inRound l (callsIn_wide.2 (of_any _ _))).mono ?_
              rintro e W3 ⟨rfl, hb3⟩
              have hJ3 := hJ2.below' hb3
              have ho3 := ho2.trans (KeepsOthers.of_grownBy (grownBy_of_below hb3) (fun j o e => by cases e))
              have ht3 := keepsTwo_t ht2 (keepsTwo_below hb3 (by have := hJ2.big; omega) (by have := hJ2.big; omega))
              clear hb3 hJ2 ho2 ht2 cf q0 q1 g0 g1 gf
              have cf := hJ3.found
              have q0 := hJ3.lo
              have q1 := hJ3.hi
              have g0 : W3.frozen? ⟨w.heap.size + 1 + 1 + 1 + 1 + 1, 0, none⟩ = false := (hJ3.openW 0 (by decide)).2
              have g1 : W3.frozen? ⟨w.heap.size + 1 + 1 + 1 + 1 + 1, 1, none⟩ = false := (hJ3.openW 1 (by decide)).2
              have gf : W3.frozen? ⟨w.heap.size + 1 + 1 + 1 + 1, 0, none⟩ = false := (hJ3.foundW 0 (by decide)).2
              gi_wp2_with fail
              go_roundw
              case rel => exact ⟨2, by decide, rfl, by have e := HN.out; simp [oneB] at e; rw [e]; exact (hJ3.opened 0 0).foundT, ((ho3.trans (KeepsOthers.setCell _ _ _)).trans (KeepsOthers.setCell _ _ _)).trans (KeepsOthers.setCell _ _ _), keepsTwo_t (keepsTwo_t (keepsTwo_t ht3 (keepsTwo_set _ _ _ (by simp) (by simp))) (keepsTwo_set _ _ _ (by simp) (by simp))) (keepsTwo_set _ _ _ (by simp) (by simp))⟩
              case measure => decide
            | true =>
              gi_wp2_with fail
              have hJd := hJ2.drew
              have hod := ho2.trans (KeepsOthers.drew _)
              have hm := (by kernel_rfl : Try.prog.follows .mixedOrders = true)
              gi_region_with_o ((first | (gi_at_call 24; refine (CallsIn.inRound l (callsIn_wide.2 (of_any _ _))).mono ?_; rintro e W3 ⟨rfl, hb3⟩; have hJ3 := hJd.below' hb3; have q0' := hJ3.lo; have q1' := hJ3.hi) | (gi_at_call 28; refine (CallsIn.inRound l (callsIn_wide.2 (join_any _ _ _ _ _))).mono ?_; rintro e W4 ⟨rfl, hb4⟩; have hJ4 := hJ3.below' hb4; have g0' : W4.frozen? ⟨w.heap.size + 1 + 1 + 1 + 1 + 1, 0, none⟩ = false := (hJ4.openW 0 (by decide)).2; have g1' : W4.frozen? ⟨w.heap.size + 1 + 1 + 1 + 1 + 1, 1, none⟩ = false := (hJ4.openW 1 (by decide)).2; have q0'' := hJ4.lo; have q1'' := hJ4.hi)))
              all_goals
                have ho4 := (hod.trans (KeepsOthers.of_grownBy (grownBy_of_below hb3) (fun j o e => by cases e))).trans (KeepsOthers.of_grownBy (grownBy_of_below hb4) (fun j o e => by cases e))
                have ht4 := keepsTwo_t (keepsTwo_t ht2 (keepsTwo_below (W := W2.drew) hb3 (by have := hJd.big; omega) (by have := hJd.big; omega))) (keepsTwo_below hb4 (by have := hJ3.big; omega) (by have := hJ3.big; omega))
                gi_wp2_with fail
                go_roundw
                case rel => exact ⟨2, by decide, rfl, by have e := HN.out; simp [oneB] at e; rw [e]; exact hJ4.opened _ _, (ho4.trans (KeepsOthers.setCell _ _ _)).trans (KeepsOthers.setCell _ _ _), keepsTwo_t (keepsTwo_t ht4 (keepsTwo_set _ _ _ (by simp) (by simp))) (keepsTwo_set _ _ _ (by simp) (by simp))⟩
                case measure => decide
          | true =>
            cases f with
            | false =>
              gi_wp2_with fail
              refine (CallsIn.inRound l (callsIn_wide.2 (of_any _ _))).mono ?_
              rintro e W3 ⟨rfl, hb3⟩
              have hJ3 := hJ2.below' hb3
              have ho3 := ho2.trans (KeepsOthers.of_grownBy (grownBy_of_below hb3) (fun j o e => by cases e))
              have ht3 := keepsTwo_t ht2 (keepsTwo_below hb3 (by have := hJ2.big; omega) (by have := hJ2.big; omega))
              clear hb3 hJ2 ho2 ht2 cf q0 q1 g0 g1 gf
              have cf := hJ3.found
              have q0 := hJ3.lo
              have q1 := hJ3.hi
              have g0 : W3.frozen? ⟨w.heap.size + 1 + 1 + 1 + 1 + 1, 0, none⟩ = false := (hJ3.openW 0 (by decide)).2
              have g1 : W3.frozen? ⟨w.heap.size + 1 + 1 + 1 + 1 + 1, 1, none⟩ = false := (hJ3.openW 1 (by decide)).2
              have gf : W3.frozen? ⟨w.heap.size + 1 + 1 + 1 + 1, 0, none⟩ = false := (hJ3.foundW 0 (by decide)).2
              gi_wp2_with fail
              go_roundw
              case rel => exact ⟨2, by decide, rfl, by have e := HN.out; simp [oneB] at e; rw [e]; exact (hJ3.opened 1 1).foundT, ((ho3.trans (KeepsOthers.setCell _ _ _)).trans (KeepsOthers.setCell _ _ _)).trans (KeepsOthers.setCell _ _ _), keepsTwo_t (keepsTwo_t (keepsTwo_t ht3 (keepsTwo_set _ _ _ (by simp) (by simp))) (keepsTwo_set _ _ _ (by simp) (by simp))) (keepsTwo_set _ _ _ (by simp) (by simp))⟩
              case measure => decide
            | true =>
              gi_wp2_with fail
              have hJd := hJ2.drew
              have hod := ho2.trans (KeepsOthers.drew _)
              have hm := (by kernel_rfl : Try.prog.follows .mixedOrders = true)
              gi_region_with_o ((first | (gi_at_call 24; refine (CallsIn.inRound l (callsIn_wide.2 (of_any _ _))).mono ?_; rintro e W3 ⟨rfl, hb3⟩; have hJ3 := hJd.below' hb3; have q0' := hJ3.lo; have q1' := hJ3.hi) | (gi_at_call 28; refine (CallsIn.inRound l (callsIn_wide.2 (join_any _ _ _ _ _))).mono ?_; rintro e W4 ⟨rfl, hb4⟩; have hJ4 := hJ3.below' hb4; have g0' : W4.frozen? ⟨w.heap.size + 1 + 1 + 1 + 1 + 1, 0, none⟩ = false := (hJ4.openW 0 (by decide)).2; have g1' : W4.frozen? ⟨w.heap.size + 1 + 1 + 1 + 1 + 1, 1, none⟩ = false := (hJ4.openW 1 (by decide)).2; have q0'' := hJ4.lo; have q1'' := hJ4.hi)))
              all_goals
                have ho4 := (hod.trans (KeepsOthers.of_grownBy (grownBy_of_below hb3) (fun j o e => by cases e))).trans (KeepsOthers.of_grownBy (grownBy_of_below hb4) (fun j o e => by cases e))
                have ht4 := keepsTwo_t (keepsTwo_t ht2 (keepsTwo_below (W := W2.drew) hb3 (by have := hJd.big; omega) (by have := hJd.big; omega))) (keepsTwo_below hb4 (by have := hJ3.big; omega) (by have := hJ3.big; omega))
                gi_wp2_with fail
                go_roundw
                case rel => exact ⟨2, by decide, rfl, by have e := HN.out; simp [oneB] at e; rw [e]; exact hJ4.opened _ _, (ho4.trans (KeepsOthers.setCell _ _ _)).trans (KeepsOthers.setCell _ _ _), keepsTwo_t (keepsTwo_t ht4 (keepsTwo_set _ _ _ (by simp) (by simp))) (keepsTwo_set _ _ _ (by simp) (by simp))⟩
                case measure => decide
      · gi_wp2_with fail
        exact ⟨ho, ht, by show MayI _ _ _ (foldX 3 prime brk klo khi (pre ++ [x])) _; rw [foldX_snoc, HST.out]; exact hJ⟩
  case done =>
    rintro D ys W hD rfl hI hK
    obtain ⟨st, hst⟩ : ∃ st, foldX 3 prime brk klo khi (cornersOf vlo vhi brk) = st := ⟨_, rfl⟩
    have hr := HR.out
    unfold maybeOpen at hr
    rw [if_pos rfl, hst] at hr
    rw [hst] at hI
    clear hst
    obtain ⟨f, a, b⟩ := st
    have cf := hI.found
    have q0 := hI.lo
    have q1 := hI.hi
    have m0 : W.cell? ⟨w.heap.size + 1, 0, none⟩ = some (.int .i64 plo) := hI.known 0 _ rfl
    have m1 : W.cell? ⟨w.heap.size + 1, 1, none⟩ = some (.int .i64 phi) := hI.known 1 _ rfl
    have m2 : W.cell? ⟨w.heap.size + 1, 2, none⟩ = some (.int .i64 tgt) := hI.known 2 _ rfl
    have m3 : W.cell? ⟨w.heap.size + 1, 3, none⟩ = some (.int .i64 klo) := hI.known 3 _ rfl
    have m4 : W.cell? ⟨w.heap.size + 1, 4, none⟩ = some (.int .i64 khi) := hI.known 4 _ rfl
    have y3 : W.frozen? ⟨w.heap.size + 1, 3, none⟩ = false := (hI.knownW 3 (by decide)).2
    have y4 : W.frozen? ⟨w.heap.size + 1, 4, none⟩ = false := (hI.knownW 4 (by decide)).2
    have z0 : W.frozen? ⟨w.heap.size + 1 + 1 + 1, 0, none⟩ = false := (hI.res 0 (by decide)).2
    have z1 : W.frozen? ⟨w.heap.size + 1 + 1 + 1, 1, none⟩ = false := (hI.res 1 (by decide)).2
    have z2 : W.frozen? ⟨w.heap.size + 1 + 1 + 1, 2, none⟩ = false := (hI.res 2 (by decide)).2
    have z3 : W.frozen? ⟨w.heap.size + 1 + 1 + 1, 3, none⟩ = false := (hI.res 3 (by decide)).2
    have z4 : W.frozen? ⟨w.heap.size + 1 + 1 + 1, 4, none⟩ = false := (hI.res 4 (by decide)).2
    obtain ⟨x0, hx0⟩ := Option.isSome_iff_exists.1 (hI.res 0 (by decide)).1
    obtain ⟨x1, hx1⟩ := Option.isSome_iff_exists.1 (hI.res 1 (by decide)).1
    obtain ⟨x2, hx2⟩ := Option.isSome_iff_exists.1 (hI.res 2 (by decide)).1
    obtain ⟨x3, hx3⟩ := Option.isSome_iff_exists.1 (hI.res 3 (by decide)).1
    obtain ⟨x4, hx4⟩ := Option.isSome_iff_exists.1 (hI.res 4 (by decide)).1
    have hB := hI.below
    cases f with
    | true =>
      rw [if_pos rfl] at hr
      cases hr
      gi_wp2_with fail
      refine bodyPostM_named _ (fun W5 hW5 => ?_)
      have hk5 : KeepsOthers W W5 := by
        rw [hW5]
        repeat (first | with_reducible exact KeepsOthers.refl _ | refine KeepsOthers.trans ?_ (KeepsOthers.setCell _ _ _))
      have r0 : W5.cell? ⟨w.heap.size + 1 + 1 + 1, 0, none⟩ = some (.int .i64 plo) := by rw [hW5]; simp [go_sem, hx0, hx1, hx2, hx3, hx4]
      have r1 : W5.cell? ⟨w.heap.size + 1 + 1 + 1, 1, none⟩ = some (.int .i64 phi) := by rw [hW5]; simp [go_sem, hx0, hx1, hx2, hx3, hx4]
      have r2 : W5.cell? ⟨w.heap.size + 1 + 1 + 1, 2, none⟩ = some (.int .i64 tgt) := by rw [hW5]; simp [go_sem, hx0, hx1, hx2, hx3, hx4]
      have r3 : W5.cell? ⟨w.heap.size + 1 + 1 + 1, 3, none⟩ = some (.int .i64 s1) := by rw [hW5]; simp [go_sem, hx0, hx1, hx2, hx3, hx4]
      have r4 : W5.cell? ⟨w.heap.size + 1 + 1 + 1, 4, none⟩ = some (.int .i64 s2) := by rw [hW5]; simp [go_sem, hx0, hx1, hx2, hx3, hx4]
      have hB5 : Below w.heap.size w W5 := by
        rw [hW5]
        repeat (first | with_reducible exact hB | refine Below.setCell ?_ (by simp <;> omega) _)
      clear hW5
      have hK5 := hk5.same D _ hK rfl
      refine ⟨by simp, .inl ⟨_, _, rfl, run_takeDeferred hK5, ?_⟩⟩
      have p0 := cell_kept r0 (grownBy_putObj' _ D (.deferred none)) (fun r e => by cases e; exact ⟨_, hK5, rfl⟩)
      have p1 := cell_kept r1 (grownBy_putObj' _ D (.deferred none)) (fun r e => by cases e; exact ⟨_, hK5, rfl⟩)
      have p2 := cell_kept r2 (grownBy_putObj' _ D (.deferred none)) (fun r e => by cases e; exact ⟨_, hK5, rfl⟩)
      have p3 := cell_kept r3 (grownBy_putObj' _ D (.deferred none)) (fun r e => by cases e; exact ⟨_, hK5, rfl⟩)
      have p4 := cell_kept r4 (grownBy_putObj' _ D (.deferred none)) (fun r e => by cases e; exact ⟨_, hK5, rfl⟩)
      refine ⟨.agg #[.int .i64 plo, .int .i64 phi, .int .i64 tgt, .int .i64 s1, .int .i64 s2], ?_, rfl, hB5.trans (belowK_b (w := w) (Nat.le_refl _) W5 D _ _ (by omega) hK5 rfl rfl)⟩
      simp [results, Try.f16, go_sem, p0, p1, p2, p3, p4]
    | false =>
      rw [if_neg Bool.false_ne_true] at hr
      cases hr
      gi_wp2_with fail
      refine bodyPostM_named _ (fun W5 hW5 => ?_)
      have hk5 : KeepsOthers W W5 := by
        rw [hW5]
        repeat (first | with_reducible exact KeepsOthers.refl _ | refine KeepsOthers.trans ?_ (KeepsOthers.setCell _ _ _))
      have r0 : W5.cell? ⟨w.heap.size + 1 + 1 + 1, 0, none⟩ = some (.int .i64 plo) := by rw [hW5]; simp [go_sem, hx0, hx1, hx2, hx3, hx4]
      have r1 : W5.cell? ⟨w.heap.size + 1 + 1 + 1, 1, none⟩ = some (.int .i64 phi) := by rw [hW5]; simp [go_sem, hx0, hx1, hx2, hx3, hx4]
      have r2 : W5.cell? ⟨w.heap.size + 1 + 1 + 1, 2, none⟩ = some (.int .i64 tgt) := by rw [hW5]; simp [go_sem, hx0, hx1, hx2, hx3, hx4]
      have r3 : W5.cell? ⟨w.heap.size + 1 + 1 + 1, 3, none⟩ = some (.int .i64 klo) := by rw [hW5]; simp [go_sem, hx0, hx1, hx2, hx3, hx4]
      have r4 : W5.cell? ⟨w.heap.size + 1 + 1 + 1, 4, none⟩ = some (.int .i64 khi) := by rw [hW5]; simp [go_sem, hx0, hx1, hx2, hx3, hx4]
      have hB5 : Below w.heap.size w W5 := by
        rw [hW5]
        repeat (first | with_reducible exact hB | refine Below.setCell ?_ (by simp <;> omega) _)
      clear hW5
      have hK5 := hk5.same D _ hK rfl
      refine ⟨by simp, .inl ⟨_, _, rfl, run_takeDeferred hK5, ?_⟩⟩
      have p0 := cell_kept r0 (grownBy_putObj' _ D (.deferred none)) (fun r e => by cases e; exact ⟨_, hK5, rfl⟩)
      have p1 := cell_kept r1 (grownBy_putObj' _ D (.deferred none)) (fun r e => by cases e; exact ⟨_, hK5, rfl⟩)
      have p2 := cell_kept r2 (grownBy_putObj' _ D (.deferred none)) (fun r e => by cases e; exact ⟨_, hK5, rfl⟩)
      have p3 := cell_kept r3 (grownBy_putObj' _ D (.deferred none)) (fun r e => by cases e; exact ⟨_, hK5, rfl⟩)
      have p4 := cell_kept r4 (grownBy_putObj' _ D (.deferred none)) (fun r e => by cases e; exact ⟨_, hK5, rfl⟩)
      refine ⟨.agg #[.int .i64 plo, .int .i64 phi, .int .i64 tgt, .int .i64 klo, .int .i64 khi], ?_, rfl, hB5.trans (belowK_b (w := w) (Nat.le_refl _) W5 D _ _ (by omega) hK5 rfl rfl)⟩
      simp [results, Try.f16, go_sem, p0, p1, p2, p3, p4]
  case stop =>
    rintro D c pre W _ _ h _
    exact h.elim

theorem maybe_no (nm : ByteArray) (kind from' to' : Int) (r0 r1 r2 : Option Addr) (n0 n1 n2 c0 c1 c2 : Nat) (pos sp leak crest num den prime brk bnum bden delay : Int) (hk : ¬ kind = 3) (plo phi tgt klo khi vlo vhi : Int) (w : World) :
    Calls Try.prog 16 #[.agg #[.string nm, .int .i64 kind, .int .i64 from', .int .i64 to', .slice r0 n0 c0, .slice r1 n1 c1, .slice r2 n2 c2, .int .i64 pos, .int .i64 sp, .int .i64 leak, .int .i64 crest, .int .i64 num, .int .i64 den, .int .i64 prime, .int .i64 brk, .int .i64 bnum, .int .i64 bden, .int .i64 delay], .agg #[.int .i64 plo, .int .i64 phi, .int .i64 tgt, .int .i64 klo, .int .i64 khi], .agg #[.int .i64 vlo, .int .i64 vhi]] w fun e w' => e = .returned (.agg #[.int .i64 plo, .int .i64 phi, .int .i64 tgt, .int .i64 klo, .int .i64 khi]) ∧ Below w.heap.size w w' := by
  have tk : (kind != 3) = true := bne_iff_ne.2 hk
  clear hk
  go_enter Try.func16, Try.ntmps16
  go_wp2_with fail
  exact bodyPost_ret (v := .agg #[.int .i64 plo, .int .i64 phi, .int .i64 tgt, .int .i64 klo, .int .i64 khi]) (by simp [results, Try.results16, go_sem]) rfl ⟨rfl, by go_grown⟩

theorem maybe_any (nm : ByteArray) (kind from' to' : Int) (r0 r1 r2 : Option Addr) (n0 n1 n2 c0 c1 c2 : Nat) (pos sp leak crest num den prime brk bnum bden delay : Int) (brk1 : -9223372036854775808 ≤ brk) (brk2 : brk ≤ 9223372036854775807) (plo phi tgt klo khi vlo vhi : Int) (w : World) :
    Calls Try.prog 16 #[.agg #[.string nm, .int .i64 kind, .int .i64 from', .int .i64 to', .slice r0 n0 c0, .slice r1 n1 c1, .slice r2 n2 c2, .int .i64 pos, .int .i64 sp, .int .i64 leak, .int .i64 crest, .int .i64 num, .int .i64 den, .int .i64 prime, .int .i64 brk, .int .i64 bnum, .int .i64 bden, .int .i64 delay], .agg #[.int .i64 plo, .int .i64 phi, .int .i64 tgt, .int .i64 klo, .int .i64 khi], .agg #[.int .i64 vlo, .int .i64 vhi]] w fun e w' =>
      e = .returned (.agg #[.int .i64 plo, .int .i64 phi, .int .i64 tgt, .int .i64 (maybeOpen kind prime brk klo khi vlo vhi).1, .int .i64 (maybeOpen kind prime brk klo khi vlo vhi).2]) ∧ Below w.heap.size w w' := by
  by_cases h : kind = 3
  · subst h
    exact callsIn_wide.1 (maybe3_in 4 (Nat.le_refl _) nm from' to' r0 r1 r2 n0 n1 n2 c0 c1 c2 pos sp leak crest num den prime brk bnum bden delay brk1 brk2 plo phi tgt klo khi vlo vhi w)
  · have e : maybeOpen kind prime brk klo khi vlo vhi = (klo, khi) := if_neg h
    rw [e]
    exact maybe_no nm kind from' to' r0 r1 r2 n0 n1 n2 c0 c1 c2 pos sp leak crest num den prime brk bnum bden delay h plo phi tgt klo khi vlo vhi w

end Go.Proofs.Ytacjhenjagageaa
