/- SeepHolds: the walk. -/
import Derived.Test.YtacjhenjagageaaSmall20
import Derived.Test.YtacjhenjagageaaWords
import Derived.Deep.LoopGhost
import Derived.Deep.CutBlock
import Derived.Deep.DeepCutAuto
namespace Go.Proofs.Ytacjhenjagageaa
open Go.RowKit
set_option linter.unusedVariables false
set_option linter.unusedSimpArgs false

theorem range_put {W : World} {b : Nat} {cs : List Value} (h : W.rangeAt b 0 cs) (i : Nat) (hi : i < cs.length) (v : Value) : (W.setCell ⟨b, i, none⟩ v).rangeAt b 0 (cs.set i v) := fun j u hu => by
  rw [Nat.zero_add]
  by_cases e : i = j
  · subst e
    rw [List.getElem?_set_self hi] at hu
    cases hu
    exact World.cell?_setCell_same' _ _ _ (by have := h i _ (List.getElem?_eq_getElem hi); rw [Nat.zero_add] at this; rw [this]; rfl)
  · rw [List.getElem?_set_ne e] at hu
    rw [World.cell?_setCell_other _ _ _ _ (by intro h'; injection h' with _ h' _; exact e h')]
    have := h j u hu
    rwa [Nat.zero_add] at this

/-- the state behind a volume, as the law reckons it -/
def holdStep (prime brk : Int) (st : Bool) (v : Int) : Bool := if v ≤ brk then false else if prime ≤ v then true else st
theorem holdStep_sip {prime brk : Int} (h : brk < prime) (st : Bool) (v : Int) : sipOpen 3 prime brk v st = holdStep prime brk st v := by
  unfold sipOpen holdStep
  rw [if_pos rfl]
  by_cases h1 : prime ≤ v
  · rw [if_pos h1, if_neg (by omega), if_pos h1]
  · rw [if_neg h1]
    by_cases h2 : v ≤ brk
    · rw [if_pos h2, if_pos h2]
    · rw [if_neg h2, if_neg h2, if_neg h1]
structure HoldI (w : World) (G : Nat) (LKl : List Value) (A : Option Addr) (vs : List Value) (st : Bool) (W : World) : Prop where
  link : W.rangeAt w.heap.size 0 LKl
  gate : W.rangeAt G 0 [.int .i64 1, .int .i64 2, .bool false, .bool st]
  gateW : ∀ o, W.frozen? ⟨G, o, none⟩ = false
  gt : w.heap.size < G
  lt : G < W.heap.size
  row : Rd W A vs
  below : Below w.heap.size w W
theorem HoldI.bel {w : World} {G : Nat} {LKl : List Value} {A : Option Addr} {vs : List Value} {st : Bool} {W : World} (h : HoldI w G LKl A vs st W) (y : BelW W) : HoldI w G LKl A vs st y.w :=
  ⟨BelW.range h.link y, BelW.range h.gate y, fun o => bfrozen y h.lt (h.gateW o), h.gt, by have := y.2.size; have := h.lt; show G < y.1.heap.size; omega, h.row.bel y, h.below.trans (y.2.mono (by have := h.gt; have := h.lt; omega))⟩
theorem HoldI.step {w : World} {G : Nat} {LKl : List Value} {A : Option Addr} {vs : List Value} {st : Bool} {W : World} (h : HoldI w G LKl A vs st W) (HA : 0 < vs.length → ∃ ad, A = some ad ∧ ad.block < w.heap.size) (st' : Bool) :
    HoldI w G LKl A vs st' ((((W.setCell ⟨G, 0, none⟩ (.int .i64 1)).setCell ⟨G, 1, none⟩ (.int .i64 2)).setCell ⟨G, 2, none⟩ (.bool false)).setCell ⟨G, 3, none⟩ (.bool st')) := by
  have hgt := h.gt
  refine ⟨range_set (range_set (range_set (range_set h.link _ (by simp; omega) _) _ (by simp; omega) _) _ (by simp; omega) _) _ (by simp; omega) _, range_put (range_put (range_put (range_put h.gate 0 (by simp) _) 1 (by simp) _) 2 (by simp) _) 3 (by simp) _,
    fun o => by simp only [World.frozen?_setCell]; exact h.gateW o, h.gt, by simp only [World.size_setCell]; exact h.lt, ?_, (((h.below.setCell (by simp; omega) _).setCell (by simp; omega) _).setCell (by simp; omega) _).setCell (by simp; omega) _⟩
  intro hn
  obtain ⟨ad, e, hb, hc⟩ := h.row hn
  obtain ⟨ad', e', hb'⟩ := HA hn
  cases e.symm.trans e'
  refine ⟨ad, e, by simp only [World.size_setCell]; exact hb, fun j u hu => ?_⟩
  have hne : ∀ o, (⟨G, o, none⟩ : Addr) ≠ ad.add j := fun o h' => by have := congrArg Addr.block h'; rw [add_block] at this; simp at this; omega
  rw [World.cell?_setCell_other _ _ _ _ (hne 3), World.cell?_setCell_other _ _ _ _ (hne 2), World.cell?_setCell_other _ _ _ _ (hne 1), World.cell?_setCell_other _ _ _ _ (hne 0)]
  exact hc j u hu
theorem sip_tell2 (nm : ByteArray) (kind from' to' : Int) (r0 r1 r2 : Option Addr) (n0 n1 n2 c0 c1 c2 : Nat) (pos sp leak crest num den prime brk bnum bden delay : Int) (gp gt : Int) (gs go : Bool) (v : Int) (s : Bool) (h : sipOpen kind prime brk v go = s) (w : World) :
    Calls Try.prog 14 #[.agg #[.string nm, .int .i64 kind, .int .i64 from', .int .i64 to', .slice r0 n0 c0, .slice r1 n1 c1, .slice r2 n2 c2, .int .i64 pos, .int .i64 sp, .int .i64 leak, .int .i64 crest, .int .i64 num, .int .i64 den, .int .i64 prime, .int .i64 brk, .int .i64 bnum, .int .i64 bden, .int .i64 delay], .agg #[.int .i64 gp, .int .i64 gt, .bool gs, .bool go], .int .i64 v] w fun e w' => e = .returned (.agg #[.int .i64 gp, .int .i64 gt, .bool gs, .bool s]) ∧ Below w.heap.size w w' :=
  h ▸ siphon_any nm kind from' to' r0 r1 r2 n0 n1 n2 c0 c1 c2 pos sp leak crest num den prime brk bnum bden delay gp gt gs go v w
def HoldR (w : World) (G : Nat) (LKl : List Value) (A : Option Addr) (xs : List Int) (prime brk : Int) (op : Bool) (s9 s10 : Value) (wr : World) : Prop :=
  ∃ k : Nat, k ≤ xs.length ∧ s10 = .int .i64 (k : Int) ∧ s9 = .bool ((xs.take k).foldl (holdStep prime brk) op) ∧ HoldI w G LKl A (xs.map (.int .i64)) ((xs.take k).foldl (holdStep prime brk) op) wr
theorem fold_take (prime brk : Int) (op : Bool) (xs : List Int) (k : Nat) (h : k < xs.length) : (xs.take (k + 1)).foldl (holdStep prime brk) op = holdStep prime brk ((xs.take k).foldl (holdStep prime brk) op) xs[k] := by
  rw [List.take_succ_eq_append_getElem h, List.foldl_append]
  rfl

set_option maxHeartbeats 4000000 in
set_option maxRecDepth 100000 in
theorem holds_walk (nm : ByteArray) (kind from' to' : Int) (r0 r1 r2 : Option Addr) (n0 n1 n2 c0 c1 c2 : Nat) (pos sp leak crest num den prime brk bnum bden delay : Int) (op : Bool) (A : Option Addr) (c : Nat) (xs : List Int) (hmax : xs.length ≤ 9223372036854775807) (w : World) (hr : Rd w A (xs.map (.int .i64))) :
    Calls Try.prog 5 #[.agg #[.string nm, .int .i64 kind, .int .i64 from', .int .i64 to', .slice r0 n0 c0, .slice r1 n1 c1, .slice r2 n2 c2, .int .i64 pos, .int .i64 sp, .int .i64 leak, .int .i64 crest, .int .i64 num, .int .i64 den, .int .i64 prime, .int .i64 brk, .int .i64 bnum, .int .i64 bden, .int .i64 delay], .bool op, .slice A xs.length c] w fun e w' => e = .returned (.bool true) ∧ Below w.heap.size w w' := by
  have HRow := Lib.hid hr
  clear hr
  by_cases hp : prime ≤ brk
  · have t1 : decide (prime ≤ brk) = true := decide_eq_true hp
    go_enter Try.func5, Try.ntmps5
    go_wp2_with fail
    refine rebase _ (fun V1 hV x1 => ?_)
    have HB1 := Lib.hid (bel_at hV (bel_alloc (Below.refl w.heap.size w) _))
    have HR1 := Lib.hid (show V1.rangeAt w.heap.size 0 [.string nm, .int .i64 kind, .int .i64 from', .int .i64 to', .slice r0 n0 c0, .slice r1 n1 c1, .slice r2 n2 c2, .int .i64 pos, .int .i64 sp, .int .i64 leak, .int .i64 crest, .int .i64 num, .int .i64 den, .int .i64 prime, .int .i64 brk, .int .i64 bnum, .int .i64 bden, .int .i64 delay] by rw [hV]; exact range_new _ _ _)
    have HF1 := Lib.hid (show Fz V1 w.heap.size by rw [hV]; exact Fz.new _ _ _ rfl)
    clear hV
    refine (bel_of (small_any _)).mono ?_
    rintro e w' ⟨rfl, y1, rfl⟩
    have f1 := BelW.range HR1.out y1 1 _ rfl
    have f12 := BelW.range HR1.out y1 13 _ rfl
    have f13 := BelW.range HR1.out y1 14 _ rfl
    have g1 := HF1.out.bel y1 1
    simp only [Nat.zero_add] at f1 f12 f13
    go_wp2_with fail
    go_ret
    have hB : Below w.heap.size w y1.w := below_next HB1.out y1.2
    exact ⟨rfl, by go_grown⟩
  · have t1 : decide (prime ≤ brk) = false := decide_eq_false hp
    go_enter Try.func5, Try.ntmps5
    go_wp2_with fail
    refine rebase _ (fun V1 hV x1 => ?_)
    have HB1 := Lib.hid (bel_at hV (bel_alloc (Below.refl w.heap.size w) _))
    have HR1 := Lib.hid (show V1.rangeAt w.heap.size 0 [.string nm, .int .i64 kind, .int .i64 from', .int .i64 to', .slice r0 n0 c0, .slice r1 n1 c1, .slice r2 n2 c2, .int .i64 pos, .int .i64 sp, .int .i64 leak, .int .i64 crest, .int .i64 num, .int .i64 den, .int .i64 prime, .int .i64 brk, .int .i64 bnum, .int .i64 bden, .int .i64 delay] by rw [hV]; exact range_new _ _ _)
    have HF1 := Lib.hid (show Fz V1 w.heap.size by rw [hV]; exact Fz.new _ _ _ rfl)
    have HA1 := Lib.hid (show Rd V1 A (xs.map (.int .i64)) by rw [hV]; exact HRow.out.alloc _)
    clear hV
    refine (bel_of (small_any _)).mono ?_
    rintro e w' ⟨rfl, y1, rfl⟩
    have f1 := BelW.range HR1.out y1 1 _ rfl
    have f12 := BelW.range HR1.out y1 13 _ rfl
    have f13 := BelW.range HR1.out y1 14 _ rfl
    have g1 := HF1.out.bel y1 1
    simp only [Nat.zero_add] at f1 f12 f13
    go_wp2_with fail
    refine wp_named _ (fun V2 hV => ?_)
    have hI : HoldI w y1.w.heap.size [.string nm, .int .i64 3, .int .i64 from', .int .i64 to', .slice r0 n0 c0, .slice r1 n1 c1, .slice r2 n2 c2, .int .i64 pos, .int .i64 sp, .int .i64 leak, .int .i64 crest, .int .i64 num, .int .i64 den, .int .i64 prime, .int .i64 brk, .int .i64 bnum, .int .i64 bden, .int .i64 delay] A (xs.map (.int .i64)) op V2 := by
      have hB : Below w.heap.size w y1.w := below_next HB1.out y1.2
      have hlt : w.heap.size < y1.w.heap.size := World.block_lt_of_cell? _ _ f1
      rw [hV]
      refine ⟨World.rangeAt_alloc (range_put (BelW.range HR1.out y1) 1 (by simp) _) _, ?_, ?_, hlt, ?_, ?_, ?_⟩
      · have := range_new (y1.w.setCell ⟨w.heap.size, 1, none⟩ (.int .i64 3)) 28 [.int .i64 1, .int .i64 2, .bool false, .bool op]
        rwa [World.size_setCell] at this
      · exact fun o => World.frozen?_alloc_at _ _ _ _ (by simp)
      · simp
      · refine Rd.alloc ?_ _
        intro hn
        obtain ⟨ad, e, hb, hc⟩ := HRow.out hn
        refine ⟨ad, e, by rw [World.size_setCell]; omega, fun j u hu => ?_⟩
        rw [World.cell?_setCell_other _ _ _ _ (by intro h'; have := congrArg Addr.block h'; rw [add_block] at this; simp at this; omega)]
        exact (hB.cell (p := ad.add j) (by rw [add_block]; exact hb)).trans (hc j u hu)
      · exact bel_alloc (hB.setCell (by simp) _) _
    clear hV f1 f12 f13 g1 HR1 HF1 HA1 HB1
    obtain ⟨G, hG⟩ : ∃ G, y1.w.heap.size = G := ⟨_, rfl⟩
    rw [hG] at hI ⊢
    clear hG y1
    go_loopw [9, 10] (fun s9 s10 wr => HoldR w G [.string nm, .int .i64 3, .int .i64 from', .int .i64 to', .slice r0 n0 c0, .slice r1 n1 c1, .slice r2 n2 c2, .int .i64 pos, .int .i64 sp, .int .i64 leak, .int .i64 crest, .int .i64 num, .int .i64 den, .int .i64 prime, .int .i64 brk, .int .i64 bnum, .int .i64 bden, .int .i64 delay] A xs prime brk op s9 s10 wr) (fun _ i _ => xs.length - (intOf i).toNat)
    case atStart => exact ⟨0, by omega, rfl, rfl, hI⟩
    case round =>
      obtain ⟨k, hk, rfl, rfl, hJ⟩ := hrel
      have hG := hJ.gt
      have hGl := hJ.lt
      by_cases hlt : k < xs.length
      · have hsn := fold_take prime brk op xs k hlt
        obtain ⟨st, hst⟩ : ∃ st, (xs.take k).foldl (holdStep prime brk) op = st := ⟨_, rfl⟩
        rw [hst] at hJ hsn
        obtain ⟨ad, u, rfl, hadb, hu, hcell⟩ := hJ.row.at (k := k) (by simpa using hlt)
        have hu' : u = .int .i64 xs[k] := by simpa [hlt] using hu.symm
        subst hu'
        obtain ⟨v, hv⟩ : ∃ v, xs[k] = v := ⟨_, rfl⟩
        rw [hv] at hcell hsn
        have HN := Lib.hid hsn
        have HS := Lib.hid (holdStep_sip (by omega : brk < prime) st v)
        have HST := Lib.hid hst
        clear hsn hst hv hu
        have i1 : (0 : Int) ≤ (k : Int) := by omega
        have i2 : (k : Int) < (xs.length : Int) := by omega
        rw [HST.out]
        go_upto_region 10 with fail
        obtain ⟨st', hst'⟩ : ∃ st', holdStep prime brk st v = st' := ⟨_, rfl⟩
        have HS' := Lib.hid (HS.out.trans hst')
        have HN' := Lib.hid (HN.out.trans hst')
        have HST' := Lib.hid hst'
        clear hst' HS HN
        refine wp_rebase _ (fun V hV x => ?_)
        subst hV
        have HR1 := Lib.hid hJ.link
        have HG := Lib.hid hJ.gate
        have hcb := fun y : BelW V => BelW.cells hcell y
        refine wp_region_belt 7 (by kernel_rfl) (by kernel_rfl) ?_
        simp only [List.take_succ_cons, List.take_zero, List.drop_succ_cons, List.drop_zero]
        repeat (first | (with_reducible refine wpQuiet_load_g 26 _ (by with_reducible rfl) _ _ (by with_unfolding_all rfl) (by with_unfolding_all rfl) _ _ (rangeX HR1.out) Try.underlying26 (by with_unfolding_all rfl) (by kernel_rfl) ?_; simp only [Act.put, List.setIfInBounds_toArray, List.set_cons_succ, List.set_cons_zero]) | (with_reducible refine wpQuiet_load_g 28 _ (by with_reducible rfl) _ _ (by with_unfolding_all rfl) (by with_unfolding_all rfl) _ _ (rangeX HG.out) Try.underlying28 (by with_unfolding_all rfl) (by kernel_rfl) ?_; simp only [Act.put, List.setIfInBounds_toArray, List.set_cons_succ, List.set_cons_zero]) | go_big_quiet_step ((go_at_call 14; exact bel_of (sip_tell2 _ _ _ _ _ _ _ _ _ _ _ _ _ _ _ _ _ _ _ _ _ _ _ _ _ _ _ _ _ _ HS'.out _))))
        refine wpQuiet_nil ?_
        intro y
        have q0 := BelW.range HG.out y 0 _ rfl
        have q1 := BelW.range HG.out y 1 _ rfl
        have q2 := BelW.range HG.out y 2 _ rfl
        have q3 := BelW.range HG.out y 3 _ rfl
        simp only [Nat.zero_add] at q0 q1 q2 q3
        have hfz := (hJ.bel y).gateW
        go_upto_region 11 with fail
        refine wp_named _ (fun V3 hV3 => ?_)
        have hK : HoldI w G [.string nm, .int .i64 3, .int .i64 from', .int .i64 to', .slice r0 n0 c0, .slice r1 n1 c1, .slice r2 n2 c2, .int .i64 pos, .int .i64 sp, .int .i64 leak, .int .i64 crest, .int .i64 num, .int .i64 den, .int .i64 prime, .int .i64 brk, .int .i64 bnum, .int .i64 bden, .int .i64 delay] (some ad) (xs.map (.int .i64)) st' V3 := by
          rw [hV3]
          exact (hJ.bel y).step (fun hn => by obtain ⟨a', e', hb', _⟩ := HRow.out hn; exact ⟨a', e', hb'⟩) st'
        have hcell3 : V3.cell? (ad.add k) = some (.int .i64 v) := by
          rw [hV3]
          obtain ⟨a', e', hb', _⟩ := HRow.out (by simp; omega)
          cases e'
          have hne : ∀ o, (⟨G, o, none⟩ : Addr) ≠ ad.add k := fun o h' => by have := congrArg Addr.block h'; rw [add_block] at this; simp at this; omega
          rw [World.cell?_setCell_other _ _ _ _ (hne 3), World.cell?_setCell_other _ _ _ _ (hne 2), World.cell?_setCell_other _ _ _ _ (hne 1), World.cell?_setCell_other _ _ _ _ (hne 0)]
          exact hcb y
        clear hV3 q0 q1 q2 q3 hfz hcb HG HR1 hcell hJ
        by_cases h1 : prime ≤ v
        · have t2 : decide (prime ≤ v) = true := decide_eq_true h1
          have t3 : decide (v ≤ brk) = false := decide_eq_false (by omega)
          have es : st' = true := by rw [← HST'.out]; unfold holdStep; rw [if_neg (by omega), if_pos h1]
          have HN2 := Lib.hid (HN'.out.trans es)
          rw [es] at hK ⊢
          clear HN' HS' HST'
          refine wp_rebase _ (fun V4 hV4 x4 => ?_)
          subst hV4
          have f12 := fun z : BelW V4 => BelW.range hK.link z 13 _ rfl
          have f13 := fun z : BelW V4 => BelW.range hK.link z 14 _ rfl
          have hcc := fun z : BelW V4 => BelW.cells hcell3 z
          simp only [Nat.zero_add] at f12 f13
          refine wp_region_belx (by kernel_rfl) (by kernel_rfl) ?_
          repeat (go_big_quiet_step (fail))
          refine wpQuiet_nil ?_
          intro y2
          go_upto_region 13 with fail
          refine wp_region_belx (by kernel_rfl) (by kernel_rfl) ?_
          repeat (go_big_quiet_step (fail))
          refine wpQuiet_nil ?_
          intro y3
          have hK3 := hK.bel y3
          have d0 := hK3.gate 0 _ rfl
          have d1 := hK3.gate 1 _ rfl
          have d2 := hK3.gate 2 _ rfl
          have d3 := hK3.gate 3 _ rfl
          simp only [Nat.zero_add] at d0 d1 d2 d3
          clear f12 f13 hcc
          go_wp2_with fail
          go_roundw
          case rel => exact ⟨k + 1, by omega, by go_num, by rw [HN2.out], by rw [HN2.out]; exact hK3⟩
          case measure => simp [intOf]; omega
        · have t2 : decide (prime ≤ v) = false := decide_eq_false h1
          by_cases h2 : v ≤ brk
          · have t3 : decide (v ≤ brk) = true := decide_eq_true h2
            have es : st' = false := by rw [← HST'.out]; unfold holdStep; rw [if_pos h2]
            have HN2 := Lib.hid (HN'.out.trans es)
            rw [es] at hK ⊢
            clear HN' HS' HST'
            refine wp_rebase _ (fun V4 hV4 x4 => ?_)
            subst hV4
            have f12 := fun z : BelW V4 => BelW.range hK.link z 13 _ rfl
            have f13 := fun z : BelW V4 => BelW.range hK.link z 14 _ rfl
            have hcc := fun z : BelW V4 => BelW.cells hcell3 z
            simp only [Nat.zero_add] at f12 f13
            refine wp_region_belx (by kernel_rfl) (by kernel_rfl) ?_
            repeat (go_big_quiet_step (fail))
            refine wpQuiet_nil ?_
            intro y2
            go_upto_region 13 with fail
            refine wp_region_belx (by kernel_rfl) (by kernel_rfl) ?_
            repeat (go_big_quiet_step (fail))
            refine wpQuiet_nil ?_
            intro y3
            have hK3 := hK.bel y3
            have d0 := hK3.gate 0 _ rfl
            have d1 := hK3.gate 1 _ rfl
            have d2 := hK3.gate 2 _ rfl
            have d3 := hK3.gate 3 _ rfl
            simp only [Nat.zero_add] at d0 d1 d2 d3
            clear f12 f13 hcc
            go_wp2_with fail
            go_roundw
            case rel => exact ⟨k + 1, by omega, by go_num, by rw [HN2.out], by rw [HN2.out]; exact hK3⟩
            case measure => simp [intOf]; omega
          · have t3 : decide (v ≤ brk) = false := decide_eq_false h2
            have es : st' = st := by rw [← HST'.out]; unfold holdStep; rw [if_neg h2, if_neg h1]
            have e9 : (st != st) = false := bne_self_eq_false st
            have HN2 := Lib.hid (HN'.out.trans es)
            rw [es] at hK ⊢
            clear HN' HS' HST'
            refine wp_rebase _ (fun V4 hV4 x4 => ?_)
            subst hV4
            have f12 := fun z : BelW V4 => BelW.range hK.link z 13 _ rfl
            have f13 := fun z : BelW V4 => BelW.range hK.link z 14 _ rfl
            have hcc := fun z : BelW V4 => BelW.cells hcell3 z
            simp only [Nat.zero_add] at f12 f13
            refine wp_region_belx (by kernel_rfl) (by kernel_rfl) ?_
            repeat (go_big_quiet_step (fail))
            refine wpQuiet_nil ?_
            intro y2
            go_upto_region 13 with fail
            refine wp_region_belx (by kernel_rfl) (by kernel_rfl) ?_
            repeat (go_big_quiet_step (fail))
            refine wpQuiet_nil ?_
            intro y3
            have hK3 := hK.bel y3
            have d0 := hK3.gate 0 _ rfl
            have d1 := hK3.gate 1 _ rfl
            have d2 := hK3.gate 2 _ rfl
            have d3 := hK3.gate 3 _ rfl
            simp only [Nat.zero_add] at d0 d1 d2 d3
            clear f12 f13 hcc
            go_wp2_with fail
            go_roundw
            case rel => exact ⟨k + 1, by omega, by go_num, by rw [HN2.out], by rw [HN2.out]; exact hK3⟩
            case measure => simp [intOf]; omega
      · have hB := hJ.below
        have i1 : decide ((k : Int) < (xs.length : Int)) = false := decide_eq_false (by omega)
        go_wp2_with fail
        go_ret
        exact ⟨rfl, hB⟩

end Go.Proofs.Ytacjhenjagageaa
