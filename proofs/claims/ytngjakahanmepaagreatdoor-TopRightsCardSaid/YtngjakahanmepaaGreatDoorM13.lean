/- Part 13 of the proof of TopRights: allot.isPlace, Reach, least. allot.begin. allot.Day: what it computes. No walk. date.leap, length, before, exists, In, Of: that they answer. date.In, right.monthDay. -/
import Derived.Test.YtngjakahanmepaaGreatDoorM12
import Derived.Test.YtngjakahanmepaaGreatDoorM09
import Derived.Handy
import Derived.Deep.RegionHeld3
import Derived.Deep.LoopGhost
namespace Go.Proofs.YtngjakahanmepaaGreatDoor
open Go.RowKit
set_option linter.unusedVariables false
set_option linter.unusedSimpArgs false
/-! places, all fields -/
structure Pl where
  nm : ByteArray
  kind : Int
  office : Int
  cap : Int
  LA : Option Addr
  lc : Nat
  level : List Sp
  SA : Option Addr
  sc : Nat
  start : List Int
  num : Int
  den : Int
  down : Int
  delay : Int
  floor : Int
  RA : Option Addr
  rc : Nat
  rain : List Sp
def plc (x : Pl) : List Value := [.string x.nm, .int .i64 x.kind, .int .i64 x.office, .int .i64 x.cap, .slice x.LA x.level.length x.lc, .slice x.SA x.start.length x.sc, .int .i64 x.num, .int .i64 x.den, .int .i64 x.down, .int .i64 x.delay, .int .i64 x.floor, .slice x.RA x.rain.length x.rc]
theorem plc_length (x : Pl) : (plc x).length = 12 := rfl
def plCells (l : List Pl) : List Value := l.flatMap plc
structure Pls (w : World) (A : Option Addr) (l : List Pl) : Prop where
  rd : Rd w A (plCells l)
  lev : ∀ x ∈ l, Rd w x.LA (spCells x.level)
  sta : ∀ x ∈ l, Rd w x.SA (ints x.start)
  rai : ∀ x ∈ l, Rd w x.RA (spCells x.rain)
theorem Pls.below {B : Nat} {A : Option Addr} {l : List Pl} {w w' : World} (h : Pls w A l) (hB : w.heap.size ≤ B) (hb : Below B w w') : Pls w' A l :=
  ⟨h.rd.below hB hb, fun x hx => (h.lev x hx).below hB hb, fun x hx => (h.sta x hx).below hB hb, fun x hx => (h.rai x hx).below hB hb⟩
def pl0 : Pl := ⟨⟨#[]⟩, 0, 0, 0, none, 0, [], none, 0, [], 0, 0, 0, 0, 0, none, 0, []⟩
def pl (l : List Pl) (k : Nat) : Pl := l.getD k pl0
theorem pl_at {l : List Pl} {i : Nat} (h : i < l.length) : pl l i = l[i] := by simp [pl, List.getD, h]
theorem Pls.at {A : Option Addr} {l : List Pl} {w : World} (h : Pls w A l) {k : Nat} (hk : k < l.length) :
    ∃ ad b o, A = some ad ∧ b < w.heap.size ∧ ad.add (k * 12) = ⟨b, o, none⟩ ∧ w.rangeAt b o (plc (pl l k)) := by
  rw [pl_at hk]
  exact Rd.row plc 12 plc_length (by omega) h.rd hk
/-- where water goes -/
def dns (l : List Pl) : List Dn := l.map fun p => (p.down, p.delay)
theorem dns_length (l : List Pl) : (dns l).length = l.length := by simp [dns]
theorem dns_at {l : List Pl} {k : Nat} (hk : k < l.length) : dn (dns l) k = ((pl l k).down, (pl l k).delay) := by
  rw [pl_at hk]
  simp [dn, dns, List.getD, hk]
set_option maxHeartbeats 8000000 in
theorem isplace_any (B : Option Addr) (cb n : Nat) (d0 d1 d2 d4 d5 d6 d7 d8 d9 d10 : Value) (p : Int) (w : World) :
    Calls Tryz.prog 27 #[.agg #[d0, d1, d2, .slice B n cb, d4, d5, d6, d7, d8, d9, d10], .int .i64 p] w fun e w' => e = .returned (.bool (decide (0 ≤ p ∧ p < (n : Int)))) ∧ Below w.heap.size w w' := by
  by_cases h1 : 0 ≤ p
  · have t1 : decide (0 ≤ p) = true := decide_eq_true h1
    rw [show decide (0 ≤ p ∧ p < (n : Int)) = decide (p < (n : Int)) from decide_eq_decide.2 ⟨fun h => h.2, fun h => ⟨h1, h⟩⟩]
    clear h1
    go_enter Tryz.func27, Tryz.ntmps27
    go_wp2_with fail
    go_ret
    exact ⟨rfl, by go_grown⟩
  · have t1 : decide (0 ≤ p) = false := decide_eq_false h1
    rw [show decide (0 ≤ p ∧ p < (n : Int)) = false from decide_eq_false (fun h => h1 h.1)]
    clear h1
    go_enter Tryz.func27, Tryz.ntmps27
    go_wp2_with fail
    go_ret
    exact ⟨rfl, by go_grown⟩
theorem isplace_is {B : Option Addr} {cb n : Nat} {d0 d1 d2 d4 d5 d6 d7 d8 d9 d10 : Value} {p : Int} {b : Bool} (h : decide (0 ≤ p ∧ p < (n : Int)) = b) (w : World) :
    Calls Tryz.prog 27 #[.agg #[d0, d1, d2, .slice B n cb, d4, d5, d6, d7, d8, d9, d10], .int .i64 p] w fun e w' => e = .returned (.bool b) ∧ Below w.heap.size w w' := h ▸ isplace_any B cb n d0 d1 d2 d4 d5 d6 d7 d8 d9 d10 p w
/-! least -/
def minL : Int → List Int → Int
  | r, [] => r
  | r, x :: l => minL (min r x) l
theorem minL_snoc (r : Int) (l : List Int) (x : Int) : minL r (l ++ [x]) = min (minL r l) x := by
  induction l generalizing r with
  | nil => rfl
  | cons y l ih => exact ih _
theorem minL_take {r : Int} {l : List Int} {k : Nat} (hk : k < l.length) : minL r (l.take (k + 1)) = min (minL r (l.take k)) (gi l k) := by
  have : gi l k = l[k] := by simp [gi, List.getD, hk]
  rw [this, List.take_succ_eq_append_getElem hk, minL_snoc]
def LeR (V : World) (r : Int) (l : List Int) (s0 s9 : Value) (wr : World) : Prop := ∃ k : Nat, k ≤ l.length ∧ s9 = .int .i64 (k : Int) ∧ s0 = .int .i64 (minL r (l.take k)) ∧ ∃ y : BelW V, wr = y.w
set_option maxHeartbeats 8000000 in
theorem least_any (A : Option Addr) (c : Nat) (r : Int) (l : List Int) (hln : l.length ≤ 9223372036854775807) (w : World) (hr : Rd w A (ints l)) :
    Calls Tryz.prog 26 #[.int .i64 r, .slice A l.length c] w fun e w' => e = .returned (.int .i64 (minL r l)) ∧ Below w.heap.size w w' := by
  have HR := Lib.hid hr
  clear hr
  go_enter Tryz.func26, Tryz.ntmps26
  go_wp2_with fail
  go_loopw [0, 9] (fun s0 s9 wr => LeR w r l s0 s9 wr) (fun _ i _ => l.length - (intOf i).toNat)
  case atStart => exact ⟨0, by omega, rfl, rfl, ⟨w, Below.refl _ _⟩, rfl⟩
  case round =>
    obtain ⟨k, hk, rfl, rfl, y, rfl⟩ := hrel
    by_cases hlt : k < l.length
    · have i4 : decide ((k : Int) < (l.length : Int)) = true := decide_eq_true (by omega)
      have j1 : (0 : Int) ≤ (k : Int) := by omega
      have j2 : (k : Int) < (l.length : Int) := by omega
      obtain ⟨ad, rfl, e1⟩ := rd_row (HR.out.bel y) hlt
      have HX := Lib.hid (minL_take (r := r) hlt)
      obtain ⟨m, hm⟩ : ∃ m, minL r (l.take k) = m := ⟨_, rfl⟩
      rw [hm] at HX ⊢
      obtain ⟨x, hx⟩ : ∃ m, gi l k = m := ⟨_, rfl⟩
      rw [hx] at HX e1
      clear hm hx
      go_wp2_with fail
      go_roundw
      case rel => exact ⟨k + 1, by omega, by go_num, by rw [HX.out], y, rfl⟩
      case measure => simp [intOf]; omega
    · have i4 : decide ((k : Int) < (l.length : Int)) = false := decide_eq_false (by omega)
      obtain rfl : k = l.length := by omega
      rw [List.take_length]
      have HX := Lib.hid y.2
      go_wp2_with fail
      go_ret
      exact ⟨rfl, HX.out⟩
/-! Reach -/
def bls (n : Nat) (acc : List Nat) : List Value := (List.range n).map fun i => .bool (decide (i ∈ acc))
theorem bls_at {n i : Nat} {acc : List Nat} (h : i < n) : (bls n acc)[i]? = some (.bool (decide (i ∈ acc))) := by simp [bls, h]
theorem bls_set {n p : Nat} {acc : List Nat} (h : p < n) : (bls n acc).set p (.bool true) = bls n (acc ++ [p]) := by
  refine List.ext_getElem (by simp [bls]) fun i h1 h2 => ?_
  simp [bls] at h1 h2
  rw [List.getElem_set]
  by_cases e : p = i
  · subst e; simp [bls]
  · rw [if_neg e]; simp [bls, Ne.symm e]
theorem bls_nil (n : Nat) : (madeCells #[Value.bool false] n).toList = bls n [] := by
  rw [toList_madeCells_one]
  refine List.ext_getElem (by simp [bls]) fun i h1 h2 => by simp [bls]
theorem info_bool : (Tryz.prog.info? 4).map (fun i => (i.zero, i.size, i.bytes)) = some (some (.bool false), 1, 1) := by kernel_rfl
def nat2 (l : List Nat) : List Int := l.map Int.ofNat
theorem nat2_length (l : List Nat) : (nat2 l).length = l.length := by simp [nat2]
theorem nat2_snoc (l : List Nat) (p : Nat) : ints (nat2 (l ++ [p])) = ints (nat2 l) ++ [.int .i64 (p : Int)] := by simp [nat2, ints]
def ReR (V : World) (D : List Dn) (g : Nat) (p0 : Int) (kx : Nat) (s1 s5 : Value) (wr : World) : Prop :=
  ∃ (p : Int) (acc : List Nat) (f : Nat), s1 = .int .i64 p ∧ D.length - acc.length ≤ kx ∧ Hid (DisL D.length acc ∧ D.length ≤ acc.length + f ∧ reachGo D f p acc = reachF D p0) ∧
    Below V.heap.size V wr ∧ wr.ownsRow V.heap.size 3 1 s5 acc.length (ints (nat2 acc)) ∧ wr.ownsRow V.heap.size 4 1 (.slice (some ⟨g, 0, none⟩) D.length D.length) D.length (bls D.length acc) ∧ Apart s5 (.slice (some ⟨g, 0, none⟩) D.length D.length)
set_option maxHeartbeats 32000000 in
set_option maxRecDepth 100000 in
theorem reach_any (B : Option Addr) (cb : Nat) (ps : List Pl) (d0 d1 d2 d4 d5 d6 d7 d8 d9 d10 : Value) (p0 : Int) (hpn : ps.length ≤ 1000) (w : World) (hp : Pls w B ps) :
    Calls Tryz.prog 11 #[.agg #[d0, d1, d2, .slice B ps.length cb, d4, d5, d6, d7, d8, d9, d10], .int .i64 p0] w (InPost (nat2 (reachF (dns ps) p0)) w) := by
  obtain ⟨i0, hi0, hz0, hz1, hz2⟩ := info_parts info_bool
  obtain ⟨i1, hj0, hj1, hj2, hj3⟩ := info_parts info_int2
  have hmk : i0.bytes * ps.length ≤ 281474976710656 := by rw [hz2]; omega
  have hml : ps.length ≤ maxLen := by unfold maxLen; omega
  have INF0 := Lib.hid (And.intro hi0 (And.intro hz0 (And.intro hz1 (And.intro hmk hml))))
  have INF1 := Lib.hid (And.intro hj0 (And.intro hj1 (And.intro hj2 hj3)))
  have HDN := Lib.hid (dns_length ps)
  have HDA := Lib.hid (fun k (hk : k < ps.length) => dns_at hk)
  obtain ⟨D, hD⟩ : ∃ D, dns ps = D := ⟨_, rfl⟩
  rw [hD] at HDN HDA ⊢
  clear hi0 hz0 hz1 hz2 hmk hml hj0 hj1 hj2 hj3 hD
  go_enter Tryz.func11, Tryz.ntmps11
  go_upto_region 1 with fail
  refine wp_rebase _ (fun V hV x0 => ?_)
  have HB0 := Lib.hid (show Below w.heap.size w V by rw [hV]; exact bel_alloc (Below.refl _ _) _)
  have HBAS := Lib.hid (show V.rangeAt w.heap.size 0 [d0, d1, d2, .slice B ps.length cb, d4, d5, d6, d7, d8, d9, d10] by rw [hV]; exact range_new _ _ [d0, d1, d2, .slice B ps.length cb, d4, d5, d6, d7, d8, d9, d10])
  have HP := Lib.hid (hp.below (Nat.le_refl _) HB0.out)
  have cb0 : x0.w.cell? ⟨w.heap.size, 3, none⟩ = some (.slice B ps.length cb) := BelW.range HBAS.out x0 3 _ rfl
  clear hV hp
  go_wp2_with (first | (at_make; refine wpList_make_full _ rfl _ _ 85 rfl V.heap.size 4 i0 (.bool false) 1 Tryz.underlying85 INF0.out.1 INF0.out.2.1 INF0.out.2.2.1 _ _ _ _ ps.length (by rfl) (by rfl) (by rfl) (by rfl) INF0.out.2.2.2.1 INF0.out.2.2.2.2 x0.2.size ?_))
  intro w1 hown1 hg1
  have HB1 := Lib.hid (show Below V.heap.size V w1 from below_grown x0.2 hg1 (fun k hk => by cases hk))
  have HO1 := Lib.hid (show w1.ownsRow V.heap.size 4 1 (.slice (some ⟨x0.w.heap.size, 0, none⟩) D.length D.length) D.length (bls D.length []) by rw [HDN.out, ← bls_nil]; simpa using hown1)
  clear hown1 hg1 cb0
  obtain ⟨g, hg⟩ : ∃ g, x0.w.heap.size = g := ⟨_, rfl⟩
  rw [hg] at HO1 ⊢
  clear hg
  go_wp2_with fail
  go_loopg [1, 5] ps.length (fun kx s1 s5 wr => ReR V D g p0 kx s1 s5 wr)
  case atStart => exact ⟨p0, [], D.length, rfl, by rw [HDN.out]; simp, Lib.hid ⟨⟨List.nodup_nil, fun q hq => by cases hq⟩, by simp, rfl⟩, HB1.out, (show w1.ownsRow V.heap.size 3 1 (.slice none 0 0) 0 [] from World.ownsRow_nil _ _ _ _), HO1.out, fun g h => by cases h⟩
  case round =>
    obtain ⟨p, acc, f, rfl, hkx, hI, hbw, hown, hseen, hap⟩ := hrel
    have HI := Lib.hid hI.out
    have HBW := Lib.hid hbw
    have HOW := Lib.hid hown
    have HSE := Lib.hid hseen
    have HAP := Lib.hid hap
    have HRX := Lib.hid (show wr.rangeAt w.heap.size 0 [d0, d1, d2, .slice B ps.length cb, d4, d5, d6, d7, d8, d9, d10] from BelW.range HBAS.out ⟨wr, hbw⟩)
    have HEND := Lib.hid (fun (hno : ¬ (0 ≤ p ∧ p < (D.length : Int) ∧ p.toNat ∉ acc)) (W : World) (hb : Below wr.heap.size wr W) => (show InPost (nat2 (reachF D p0)) w (.returned u5) W from by
      have e := HI.out.2.2
      rw [reachGo_end hno] at e
      rw [← e]
      exact InPost.of (nat2_length acc) (own_below HOW.out hb) HB0.out.size (below_next HB0.out (below_next HBW.out hb))))
    clear hI hbw hown hseen hap
    by_cases h1 : 0 ≤ p ∧ p < (ps.length : Int)
    case neg =>
      have CI := Lib.hid (fun W : World => isplace_is (B := B) (cb := cb) (n := ps.length) (d0 := d0) (d1 := d1) (d2 := d2) (d4 := d4) (d5 := d5) (d6 := d6) (d7 := d7) (d8 := d8) (d9 := d9) (d10 := d10) (p := p) (decide_eq_false h1) W)
      have HX := Lib.hid (HEND.out (fun h => h1 ⟨h.1, by have := h.2.1; rw [HDN.out] at this; exact this⟩))
      clear h1 HEND
      go_wp2_with (first
        | (with_reducible refine wpList_load_g 31 _ (by with_reducible rfl) _ _ (by with_unfolding_all rfl) (by with_unfolding_all rfl) _ _ HRX.out Tryz.underlying31 (by with_unfolding_all rfl) (by kernel_rfl) ?_)
        | (go_at_call 27; (with_reducible refine (CI.out _).mono ?_); rintro e w2 ⟨rfl, hb2⟩))
      go_ret
      exact HX.out _ hb2
    have CI := Lib.hid (fun W : World => isplace_is (B := B) (cb := cb) (n := ps.length) (d0 := d0) (d1 := d1) (d2 := d2) (d4 := d4) (d5 := d5) (d6 := d6) (d7 := d7) (d8 := d8) (d9 := d9) (d10 := d10) (p := p) (decide_eq_true h1) W)
    obtain ⟨q, rfl⟩ := Int.eq_ofNat_of_zero_le h1.1
    have hq : q < ps.length := by omega
    have hqD : q < D.length := by rw [HDN.out]; exact hq
    have j1 : (0 : Int) ≤ (q : Int) := by omega
    have j2 : (q : Int) < (ps.length : Int) := by omega
    have HCL := Lib.hid (fun (W : World) (hb : Below wr.heap.size wr W) => (show W.cell? ⟨g, q, none⟩ = some (.bool (decide (q ∈ acc))) from by
      rw [World.ownsRow.cellAt (own_below HSE.out hb) q (by omega), bls_at hqD]))
    have hDl := HDN.out
    rw [hDl] at HSE
    by_cases h2 : q ∈ acc
    · have HX := Lib.hid (HEND.out (fun h => h.2.2 (by rw [Int.toNat_natCast]; exact h2)))
      rw [decide_eq_true h2] at HCL
      clear h1 h2 HEND
      go_wp2_with (first
        | (with_reducible refine wpList_load_g 31 _ (by with_reducible rfl) _ _ (by with_unfolding_all rfl) (by with_unfolding_all rfl) _ _ HRX.out Tryz.underlying31 (by with_unfolding_all rfl) (by kernel_rfl) ?_)
        | (go_at_call 27; (with_reducible refine (CI.out _).mono ?_); rintro e w2 ⟨rfl, hb2⟩; have hc2 := HCL.out _ hb2))
      go_ret
      exact HX.out _ hb2
    · have HSTEP := Lib.hid (reachGo_step HI.out.1 HI.out.2.1 hqD h2)
      have HDS := Lib.hid (HI.out.1.snoc hqD h2)
      have HAQ := Lib.hid (HDA.out q hq)
      have hacl : acc.length ≤ 1000 := by have := HI.out.1.len; rw [hDl] at this; omega
      have HFR := Lib.hid (fun (W : World) (hb : Below wr.heap.size wr W) => (show ∀ o, W.frozen? ⟨g, o, none⟩ = false from fun o => World.ownsRow.frozenAt (own_below HSE.out hb) o))
      have HMX := Lib.hid (show acc.length + 1 ≤ maxLen ∧ (acc.length + 1) * 8 ≤ 140737488355328 by unfold maxLen; constructor <;> omega)
      rw [decide_eq_false h2] at HCL
      clear h1 h2 HEND
      go_upto_region 5 with (first
        | (with_reducible refine wpList_load_g 31 _ (by with_reducible rfl) _ _ (by with_unfolding_all rfl) (by with_unfolding_all rfl) _ _ HRX.out Tryz.underlying31 (by with_unfolding_all rfl) (by kernel_rfl) ?_)
        | (go_at_call 27; (with_reducible refine (CI.out _).mono ?_); rintro e w2 ⟨rfl, hb2⟩; have hc2 := HCL.out _ hb2; have hf2 := HFR.out _ hb2))
      refine wp_named _ (fun W3 hW3 => ?_)
      have hs2 : w2.ownsRow V.heap.size 4 1 (.slice (some ⟨g, 0, none⟩) ps.length ps.length) ps.length (bls ps.length acc) := own_below HSE.out hb2
      have hglt := World.ownsRow.lt hs2 g rfl
      have HB3 := Lib.hid (show Below V.heap.size V W3 by rw [hW3]; exact (below_next HBW.out hb2).setCell (by exact hglt.1) _)
      have HS3 := Lib.hid (show W3.ownsRow V.heap.size 4 1 (.slice (some ⟨g, 0, none⟩) ps.length ps.length) ps.length (bls ps.length (acc ++ [q])) by
        rw [hW3, ← bls_set hq]
        exact (World.ownsRow.stored hs2 q _).1)
      have HO3 := Lib.hid (show W3.ownsRow V.heap.size 3 1 u5 acc.length (ints (nat2 acc)) by
        rw [hW3]
        exact ownsRow_setCell_other (own_below HOW.out hb2) (fun e => HAP.out g e rfl) _)
      have HG3 := Lib.hid (show g < W3.heap.size by rw [hW3, World.size_setCell]; exact hglt.2)
      clear hW3 hs2 hglt hc2 hf2 HCL HFR hb2
      go_wp2_with (first | (at_builtin; refine wpList_append_lies _ rfl _ _ _ (by rfl) V.heap.size 3 i1 _ 1 8 Tryz.underlying29 INF1.out.1 INF1.out.2.1 INF1.out.2.2.1 INF1.out.2.2.2 rfl (by omega) _ acc.length (ints (nat2 acc)) (by rfl) (HO3.out.alloc _) ⟨W3.heap.size, 0, none⟩ 1 1 [.int .i64 (q : Int)] (by rfl) (by rfl) (World.news_of_block (heap_alloc_new _ _)) (by simp [Value.oneCell']) (by omega) HMX.out.1 HMX.out.2 (Nat.le_trans HB3.out.size (by simp)) (W3.heap.size + 1) (by simp) ?_))
      intro g2 cap2 w4 hown4 hgrow4 hat4 hl4
      have HB4 := Lib.hid (show Below V.heap.size V w4 from own_grown (bel_alloc HB3.out _) (HO3.out.alloc _) hgrow4)
      have HO4 := Lib.hid (show w4.ownsRow V.heap.size 3 1 (.slice (some ⟨g2, 0, none⟩) (acc.length + 1) cap2) (acc ++ [q]).length (ints (nat2 (acc ++ [q]))) by
        rw [nat2_snoc, List.length_append]; exact hown4)
      have HS4 := Lib.hid (show w4.ownsRow V.heap.size 4 1 (.slice (some ⟨g, 0, none⟩) ps.length ps.length) ps.length (bls ps.length (acc ++ [q])) from (HS3.out.alloc _).kept hgrow4 (.inr (fun e => HAP.out g e.symm rfl)))
      have HA4 := Lib.hid (show Apart (.slice (some ⟨g2, 0, none⟩) (acc.length + 1) cap2) (.slice (some ⟨g, 0, none⟩) ps.length ps.length) from fun g' e1 e2 => by
        simp [Value.ownBlock] at e1 e2
        subst e1 e2
        rcases hat4 with e | e
        · exact HAP.out _ e rfl
        · have := HG3.out; omega)
      clear hown4 hgrow4 hat4 HO3 HS3 HB3
      obtain ⟨pd, pb, po, rfl, -, hE, hr⟩ := (HP.out.below (Nat.le_refl _) HB4.out).at hq
      obtain ⟨PP, hPP⟩ : ∃ x, pl ps q = x := ⟨_, rfl⟩
      rw [hPP] at hr HAQ
      have e8 : w4.cell? ⟨pb, po + 8, none⟩ = some (.int .i64 PP.down) := hr 8 _ rfl
      have e9 : w4.cell? ⟨pb, po + 9, none⟩ = some (.int .i64 PP.delay) := hr 9 _ rfl
      have b3 : w4.cell? ⟨w.heap.size, 3, none⟩ = some (.slice (some pd) ps.length cb) := BelW.range HBAS.out ⟨w4, HB4.out⟩ 3 _ rfl
      have HST2 := Lib.hid (show reachGo D f (q : Int) acc = if 24 ≤ PP.delay then acc ++ [q] else reachGo D (f - 1) PP.down (acc ++ [q]) by rw [HSTEP.out, HAQ.out])
      obtain ⟨dl, hdl⟩ : ∃ x, PP.delay = x := ⟨_, rfl⟩
      obtain ⟨dw, hdw⟩ : ∃ x, PP.down = x := ⟨_, rfl⟩
      rw [hdl, hdw] at HST2
      rw [hdl] at e9
      rw [hdw] at e8
      have HL1 := Lib.hid (show (acc ++ [q]).length = acc.length + 1 by simp)
      clear hr hPP hdl hdw HAQ HSTEP
      by_cases h3 : 24 ≤ dl
      · have t3 : decide (24 ≤ dl) = true := decide_eq_true h3
        have HX := Lib.hid (show InPost (nat2 (reachF D p0)) w (.returned (.slice (some ⟨g2, 0, none⟩) (acc.length + 1) cap2)) w4 from by
          have e := HI.out.2.2
          rw [HST2.out, if_pos h3] at e
          rw [← e]
          exact InPost.of (nat2_length _) HO4.out HB0.out.size (below_next HB0.out HB4.out))
        clear h3
        go_wp2_with fail
        go_ret
        exact HX.out
      · have t3 : decide (24 ≤ dl) = false := decide_eq_false h3
        have HE2 := Lib.hid (show reachGo D (f - 1) dw (acc ++ [q]) = reachF D p0 from by
          have e := HI.out.2.2
          rw [HST2.out, if_neg h3] at e
          exact e)
        have hfl := HDS.out.len
        rw [HL1.out] at hfl
        have HFF := Lib.hid (show D.length ≤ (acc ++ [q]).length + (f - 1) by rw [HL1.out]; have := HI.out.2.1; omega)
        clear h3
        go_wp2_with fail
        go_roundg (D.length - (acc.length + 1))
        case measure => omega
        case rel => exact ⟨dw, acc ++ [q], f - 1, rfl, by rw [HL1.out]; omega, Lib.hid ⟨HDS.out, HFF.out, HE2.out⟩, HB4.out, HO4.out, by rw [hDl]; exact HS4.out, by rw [hDl]; exact HA4.out⟩
end Go.Proofs.YtngjakahanmepaaGreatDoor
namespace Go.Proofs.YtngjakahanmepaaGreatDoor
open Go.RowKit
set_option linter.unusedVariables false
set_option linter.unusedSimpArgs false
theorem gi_nat2 {R : List Nat} {j : Nat} (h : j < R.length) : gi (nat2 R) j = ((R.getD j 0 : Nat) : Int) := by simp [gi, nat2, List.getD, h]
theorem getD_mem {R : List Nat} {j : Nat} (h : j < R.length) : R.getD j 0 ∈ R := by
  have : R.getD j 0 = R[j] := by simp [List.getD, h]
  rw [this]; exact List.getElem_mem h
/-- numbers that the machine holds, none negative -/
def NonF (L : List Int) : Prop := ∀ q, q < L.length → 0 ≤ gi L q ∧ gi L q ≤ 9223372036854775807
theorem NonF.set {L : List Int} (h : NonF L) {q : Nat} (hq : q < L.length) {v : Int} (h1 : 0 ≤ v) (h2 : v ≤ 9223372036854775807) : NonF (L.set q v) := fun i hi => by
  rw [List.length_set] at hi
  by_cases e : q = i
  · subst e; rw [gi_set_same hq]; exact ⟨h1, h2⟩
  · rw [gi_set_other e]; exact h i hi
theorem IR.put {w : World} {B g n : Nat} {L : List Int} (h : IR w B g n L) (q : Nat) (v : Int) : IR (w.setCell ⟨g, q, none⟩ (.int .i64 v)) B g n (L.set q v) := by
  unfold IR
  rw [← ints_set]
  exact (World.ownsRow.stored h q _).1
theorem IR.cellq {w : World} {B g n q : Nat} {L : List Int} (h : IR w B g n L) (hq : q < n) : w.cell? ⟨g, q, none⟩ = some (.int .i64 (gi L q)) := by
  have hl : L.length = n := by have := h.1; rw [ints_length] at this; omega
  rw [World.ownsRow.cellAt h q (by omega), ints_at (by omega)]
theorem IR.len2 {w : World} {B g n : Nat} {L : List Int} (h : IR w B g n L) : L.length = n := by have := h.1; rw [ints_length] at this; omega
theorem IR.fz {w : World} {B g n : Nat} {L : List Int} (h : IR w B g n L) (o : Nat) : w.frozen? ⟨g, o, none⟩ = false := World.ownsRow.frozenAt h o
theorem IR.blk {w : World} {B g n : Nat} {L : List Int} (h : IR w B g n L) : B ≤ g ∧ g < w.heap.size := World.ownsRow.lt h g rfl
def BeginPost (n : Nat) (w : World) (e : Ending) (w' : World) : Prop := ∃ (L : List Int) (g : Nat), L.length = n ∧ NonF L ∧ e = .returned (.slice (some ⟨g, 0, none⟩) n n) ∧ IR w' w.heap.size g n L ∧ Below w.heap.size w w'
def BgR (V : World) (n m g : Nat) (s19 : Value) (wr : World) : Prop := ∃ (k : Nat) (L : List Int), k ≤ m ∧ s19 = .int .i64 (k : Int) ∧ Below V.heap.size V wr ∧ IR wr V.heap.size g n L ∧ Hid (NonF L)
def BgI (V : World) (n g Bz : Nat) (A : Option Addr) (c : Nat) (R : List Nat) (s31 : Value) (wr : World) : Prop := ∃ (j : Nat) (L : List Int), j ≤ R.length ∧ s31 = .int .i64 (j : Int) ∧ Below V.heap.size V wr ∧ IR wr V.heap.size g n L ∧ wr.ownsRow Bz 3 1 (.slice A R.length c) R.length (ints (nat2 R)) ∧ Hid (NonF L)
set_option maxHeartbeats 32000000 in
set_option maxRecDepth 100000 in
theorem begin_any (B SA : Option Addr) (cb sc : Nat) (ps : List Pl) (sp : List Int) (d0 d1 d2 d4 d5 d6 d7 d8 d9 d10 : Value) (hpn : ps.length ≤ 1000) (hsn : sp.length ≤ 9223372036854775807) (hsf : ∀ i, i < sp.length → Fit (gi sp i)) (w : World) (hp : Pls w B ps) (hs : Rd w SA (ints sp)) :
    Calls Tryz.prog 25 #[.agg #[d0, d1, d2, .slice B ps.length cb, d4, d5, d6, d7, d8, d9, d10], .slice SA sp.length sc] w (BeginPost ps.length w) := by
  obtain ⟨i1, hj0, hj1, hj2, hj3⟩ := info_parts info_int2
  have hmk : i1.bytes * ps.length ≤ 281474976710656 := by rw [hj3]; omega
  have hml : ps.length ≤ maxLen := by unfold maxLen; omega
  have INF := Lib.hid (And.intro hj0 (And.intro hj1 (And.intro hj2 (And.intro hmk hml))))
  clear hj0 hj1 hj2 hj3 hmk hml
  go_enter Tryz.func25, Tryz.ntmps25
  go_upto_region 1 with fail
  refine wp_rebase _ (fun V hV x0 => ?_)
  have HB0 := Lib.hid (show Below w.heap.size w V by rw [hV]; exact bel_alloc (Below.refl _ _) _)
  have HBAS := Lib.hid (show V.rangeAt w.heap.size 0 [d0, d1, d2, .slice B ps.length cb, d4, d5, d6, d7, d8, d9, d10] by rw [hV]; exact range_new _ _ [d0, d1, d2, .slice B ps.length cb, d4, d5, d6, d7, d8, d9, d10])
  have HP := Lib.hid (hp.below (Nat.le_refl _) HB0.out)
  have HS := Lib.hid (hs.below (Nat.le_refl _) HB0.out)
  have HSF := Lib.hid hsf
  have cb0 : x0.w.cell? ⟨w.heap.size, 3, none⟩ = some (.slice B ps.length cb) := BelW.range HBAS.out x0 3 _ rfl
  clear hV hp hs hsf
  go_wp2_with (first | (at_make; refine wpList_make_full _ rfl _ _ 29 rfl V.heap.size 3 i1 (.int .i64 0) 1 Tryz.underlying29 INF.out.1 INF.out.2.1 INF.out.2.2.1 _ _ _ _ ps.length (by rfl) (by rfl) (by rfl) (by rfl) INF.out.2.2.2.1 INF.out.2.2.2.2 x0.2.size ?_))
  intro w1 hown1 hg1
  have HB1 := Lib.hid (show Below V.heap.size V w1 from below_grown x0.2 hg1 (fun k hk => by cases hk))
  have HI1 := Lib.hid (ir_made2 hown1)
  have HN1 := Lib.hid (show NonF (gl ps.length fun _ => 0) from fun q hq => by rw [gl_length] at hq; rw [gl_at hq]; omega)
  clear hown1 hg1 cb0
  obtain ⟨g, hg⟩ : ∃ g, x0.w.heap.size = g := ⟨_, rfl⟩
  rw [hg] at HI1 ⊢
  clear hg
  obtain ⟨m, hm⟩ : ∃ m, min ps.length sp.length = m := ⟨_, rfl⟩
  have hmi : min (ps.length : Int) (sp.length : Int) = (m : Int) := by omega
  have hmb : m ≤ ps.length ∧ m ≤ sp.length := by omega
  have cb1 : w1.cell? ⟨w.heap.size, 3, none⟩ = some (.slice B ps.length cb) := BelW.range HBAS.out ⟨w1, HB1.out⟩ 3 _ rfl
  clear hm
  go_wp2_with fail
  go_loopw [19] (fun s19 wr => BgR V ps.length m g s19 wr) (fun i _ => m - (intOf i).toNat)
  case atStart => exact ⟨0, _, by omega, rfl, HB1.out, HI1.out, Lib.hid HN1.out⟩
  case round =>
    obtain ⟨k, L, hk, rfl, hbw, hir, hnn⟩ := hrel
    have HBW := Lib.hid hbw
    have HIR := Lib.hid hir
    have HNN := Lib.hid hnn.out
    clear hbw hir hnn
    by_cases hlt : k < m
    · have i4 : decide ((k : Int) < (m : Int)) = true := decide_eq_true (by omega)
      have j1 : (0 : Int) ≤ (k : Int) := by omega
      have j2 : (k : Int) < (sp.length : Int) := by omega
      have hks : k < sp.length := by omega
      obtain ⟨sd, rfl, e1⟩ := rd_row (HS.out.below (Nat.le_refl _) HBW.out) hks
      have HSK := Lib.hid (fun (W : World) (hb : Below V.heap.size V W) => (show W.cell? (sd.add k) = some (.int .i64 (gi sp k)) from by
        obtain ⟨sd', e', f⟩ := rd_row (HS.out.below (Nat.le_refl _) hb) hks
        cases e'
        exact f))
      have HFK := Lib.hid (HSF.out k hks)
      obtain ⟨s, hsv⟩ : ∃ s, gi sp k = s := ⟨_, rfl⟩
      rw [hsv] at e1 HSK HFK
      clear hsv
      by_cases h1 : s ≤ 0
      · have t1 : decide (s ≤ 0) = true := decide_eq_true h1
        clear h1
        go_wp2_with fail
        go_roundw
        case rel => exact ⟨k + 1, L, by omega, by go_num, HBW.out, HIR.out, Lib.hid HNN.out⟩
        case measure => simp [intOf]; omega
      have t1 : decide (s ≤ 0) = false := decide_eq_false h1
      have HSP := Lib.hid (show 0 ≤ s ∧ s ≤ 9223372036854775807 from ⟨by omega, HFK.out.2⟩)
      have HRX := Lib.hid (show wr.rangeAt w.heap.size 0 [d0, d1, d2, .slice B ps.length cb, d4, d5, d6, d7, d8, d9, d10] from BelW.range HBAS.out ⟨wr, HBW.out⟩)
      have CR := Lib.hid (reach_any B cb ps d0 d1 d2 d4 d5 d6 d7 d8 d9 d10 (k : Int) hpn wr (HP.out.below (Nat.le_refl _) HBW.out))
      have HDR := Lib.hid (show ∀ q ∈ reachF (dns ps) (k : Int), q < ps.length from fun q hq => by have := (reachF_dis (dns ps) (k : Int)).2 q hq; rwa [dns_length] at this)
      have HDL := Lib.hid (show (reachF (dns ps) (k : Int)).length ≤ 1000 from by have := (reachF_dis (dns ps) (k : Int)).len; rw [dns_length] at this; omega)
      obtain ⟨R, hR⟩ : ∃ R, reachF (dns ps) (k : Int) = R := ⟨_, rfl⟩
      rw [hR] at CR HDR HDL
      clear hR h1
      go_upto_region 6 with fail
      go_wp2_with (first | (with_reducible refine wpList_load_g 31 _ (by with_reducible rfl) _ _ (by with_unfolding_all rfl) (by with_unfolding_all rfl) _ _ HRX.out Tryz.underlying31 (by with_unfolding_all rfl) (by kernel_rfl) ?_))
      refine CR.out.mono ?_
      rintro e w2 ⟨A, c, rfl, -, ho2, -, hb2⟩
      rw [nat2_length] at ho2 ⊢
      have HO2 := Lib.hid ho2
      have HB2 := Lib.hid (below_next HBW.out hb2)
      have HI2 := Lib.hid (HIR.out.next hb2)
      have HGL := Lib.hid (HIR.out.blk)
      obtain ⟨Bz, hBz⟩ : ∃ b, wr.heap.size = b := ⟨_, rfl⟩
      rw [hBz] at HO2 HGL
      clear ho2 hb2 CR HRX hBz e1
      have hrl := HDL.out
      go_wp2_with fail
      go_loopw [31] (fun s31 wr => BgI V ps.length g Bz A c R s31 wr) (fun i _ => R.length - (intOf i).toNat)
      case atStart => exact ⟨0, L, by omega, rfl, HB2.out, HI2.out, HO2.out, Lib.hid HNN.out⟩
      case round =>
        clear HNN HIR HBW HI2 L
        obtain ⟨j, L, hj, rfl, hbw, hir, hro, hnn⟩ := hrel
        have HBW := Lib.hid hbw
        have HIR := Lib.hid hir
        have HNN := Lib.hid hnn.out
        have HRO := Lib.hid hro
        clear hbw hir hnn hro
        by_cases hlj : j < R.length
        · have i5 : decide ((j : Int) < (R.length : Int)) = true := decide_eq_true (by omega)
          have n1 : (0 : Int) ≤ (j : Int) := by omega
          have n2 : (j : Int) < (R.length : Int) := by omega
          obtain ⟨A', c', e', -, hrd⟩ := own_slice HRO.out
          cases e'
          obtain ⟨rd, rfl, f1⟩ := rd_row hrd (show j < (nat2 R).length by rw [nat2_length]; exact hlj)
          rw [gi_nat2 hlj] at f1
          have hqn := HDR.out _ (getD_mem hlj)
          obtain ⟨q, hq⟩ : ∃ q, R.getD j 0 = q := ⟨_, rfl⟩
          rw [hq] at f1 hqn
          clear hq hrd
          have q1 : (0 : Int) ≤ (q : Int) := by omega
          have q2 : (q : Int) < (ps.length : Int) := by omega
          have hLl := HIR.out.len2
          have hLq := HNN.out q (by omega)
          obtain ⟨x, hx⟩ : ∃ x, gi L q = x := ⟨_, rfl⟩
          have CA := Lib.hid (fun W : World => add_any x s (by omega) (by omega) (by have := HSP.out; omega) (by have := HSP.out; omega) W)
          have hab : 0 ≤ Xa.add x s ∧ Xa.add x s ≤ 9223372036854775807 := by
            have := HSP.out
            unfold Xa.add
            split
            · omega
            · split <;> omega
          have HNX := Lib.hid (HNN.out.set (q := q) (by omega) hab.1 hab.2)
          obtain ⟨v, hv⟩ : ∃ v, Xa.add x s = v := ⟨_, rfl⟩
          rw [hv] at CA HNX
          clear hLl hLq hab hv
          go_upto_region 9 with fail
          refine wp_rebase _ (fun X hX x1 => ?_)
          have HBX := Lib.hid (show Below V.heap.size V X by rw [hX]; exact HBW.out)
          have HIX := Lib.hid (show IR X V.heap.size g ps.length L by rw [hX]; exact HIR.out)
          have HROX := Lib.hid (show X.ownsRow Bz 3 1 (.slice (some rd) R.length c) R.length (ints (nat2 R)) by rw [hX]; exact HRO.out)
          have r1 := fun z : BelW X => (show z.w.cell? ⟨g, q, none⟩ = some (.int .i64 x) from by rw [← hx]; exact (HIX.out.next (w' := z.w) z.2).cellq hqn)
          have r2 := fun z : BelW X => HSK.out z.w (below_next HBX.out z.2)
          have HS0 := Lib.hid (show ∃ z : BelW X, x1.w.drew = z.w from ⟨⟨_, x1.2.drew⟩, rfl⟩)
          clear hX f1 HRO
          refine wp_region_tail 11 (fun w' => ∃ z : BelW X, w' = z.w) (by kernel_rfl) (by kernel_rfl) HS0.out ?_
          refine wpK_take (i := 0) (v := ?v0) (by kernel_rfl) rfl (by omega) (by kernel_rfl) (by kernel_rfl) (fun _ _ _ h => h) (Or.inl ⟨by rfl, ?y0⟩) HS0.out ?_
          case y0 => intro w1 hS; (go_simp <;> with_reducible rfl)
          simp only [Act.put, List.setIfInBounds_toArray, List.set_cons_zero, List.set_cons_succ]
          refine wpK_take (i := 1) (v := ?v1) (by kernel_rfl) rfl (by omega) (by kernel_rfl) (by kernel_rfl) (fun _ _ _ h => h) (Or.inl ⟨by rfl, ?y1⟩) HS0.out ?_
          case y1 => intro w1 hS; (go_simp <;> with_reducible rfl)
          simp only [Act.put, List.setIfInBounds_toArray, List.set_cons_zero, List.set_cons_succ]
          refine wpK_take (i := 2) (v := ?v2) (by kernel_rfl) rfl (by omega) (by kernel_rfl) (by kernel_rfl) (fun _ _ _ h => h) (Or.inl ⟨by rfl, ?y2⟩) HS0.out ?_
          case y2 => intro w1 hS; (go_simp <;> with_reducible rfl)
          simp only [Act.put, List.setIfInBounds_toArray, List.set_cons_zero, List.set_cons_succ]
          refine wpK_take (i := 3) (v := ?v3) (by kernel_rfl) rfl (by omega) (by kernel_rfl) (by kernel_rfl) (fun _ _ _ h => h) (Or.inl ⟨by rfl, ?y3⟩) HS0.out ?_
          case y3 => intro w1 hS; (go_simp <;> with_reducible rfl)
          simp only [Act.put, List.setIfInBounds_toArray, List.set_cons_zero, List.set_cons_succ]
          refine wpK_take (i := 4) (v := ?v4) (by kernel_rfl) rfl (by omega) (by kernel_rfl) (by kernel_rfl) (fun _ _ _ h => h) (Or.inl ⟨by rfl, ?y4⟩) HS0.out ?_
          case y4 => intro w1 hS; (go_simp <;> with_reducible rfl)
          simp only [Act.put, List.setIfInBounds_toArray, List.set_cons_zero, List.set_cons_succ]
          refine wpK_take (i := 5) (v := ?v5) (by kernel_rfl) rfl (by omega) (by kernel_rfl) (by kernel_rfl) (fun _ _ _ h => h) (Or.inl ⟨by rfl, ?y5⟩) HS0.out ?_
          case y5 => intro w1 hS; obtain ⟨z, rfl⟩ := hS; (go_simp <;> with_reducible rfl)
          simp only [Act.put, List.setIfInBounds_toArray, List.set_cons_zero, List.set_cons_succ]
          refine wpK_take (i := 6) (v := ?v6) (by kernel_rfl) rfl (by omega) (by kernel_rfl) (by kernel_rfl) (fun _ _ _ h => h) (Or.inl ⟨by rfl, ?y6⟩) HS0.out ?_
          case y6 => intro w1 hS; (go_simp <;> with_reducible rfl)
          simp only [Act.put, List.setIfInBounds_toArray, List.set_cons_zero, List.set_cons_succ]
          refine wpK_take (i := 7) (v := ?v7) (by kernel_rfl) rfl (by omega) (by kernel_rfl) (by kernel_rfl) (fun _ _ _ h => h) (Or.inl ⟨by rfl, ?y7⟩) HS0.out ?_
          case y7 => intro w1 hS; (go_simp <;> with_reducible rfl)
          simp only [Act.put, List.setIfInBounds_toArray, List.set_cons_zero, List.set_cons_succ]
          refine wpK_take (i := 8) (v := ?v8) (by kernel_rfl) rfl (by omega) (by kernel_rfl) (by kernel_rfl) (fun _ _ _ h => h) (Or.inl ⟨by rfl, ?y8⟩) HS0.out ?_
          case y8 => intro w1 hS; (go_simp <;> with_reducible rfl)
          simp only [Act.put, List.setIfInBounds_toArray, List.set_cons_zero, List.set_cons_succ]
          refine wpK_take (i := 9) (v := ?v9) (by kernel_rfl) rfl (by omega) (by kernel_rfl) (by kernel_rfl) (fun _ _ _ h => h) (Or.inl ⟨by rfl, ?y9⟩) HS0.out ?_
          case y9 => intro w1 hS; obtain ⟨z, rfl⟩ := hS; (go_simp <;> with_reducible rfl)
          simp only [Act.put, List.setIfInBounds_toArray, List.set_cons_zero, List.set_cons_succ]
          refine wpK_one 10 rfl (by omega) (by kernel_rfl) ?_
          go_wp2_with fail
          refine (CA.out _).mono ?_
          rintro e w' ⟨rfl, rfl⟩
          go_wp2_with fail
          refine ⟨HS0.out, wpK_done (by kernel_rfl) ?_⟩
          simp only [List.drop_succ_cons, List.drop_zero]
          have r3 := r1 (⟨x1.w.drew, x1.2.drew⟩ : BelW X)
          have r3' : x1.w.drew.cell? ⟨g, q, none⟩ = some (.int .i64 x) := r3
          have HI5 := Lib.hid (show IR x1.w.drew V.heap.size g ps.length L from HIX.out.next x1.2.drew)
          have r4 := HI5.out.fz
          have HB5 := Lib.hid (show Below V.heap.size V x1.w.drew from below_next HBX.out x1.2.drew)
          have HR5 := Lib.hid (show x1.w.drew.ownsRow Bz 3 1 (.slice (some rd) R.length c) R.length (ints (nat2 R)) from own_below HROX.out x1.2.drew)
          clear r1 r2 r3
          go_wp2_with fail
          go_roundw
          case rel => exact ⟨j + 1, L.set q v, by omega, by go_num, HB5.out.setCell (by exact HI5.out.blk.1) _, HI5.out.put q v, ownsRow_setCell_below HR5.out (by exact HGL.out.2) _, Lib.hid HNX.out⟩
          case measure => simp [intOf]; omega
        · have i5 : decide ((j : Int) < (R.length : Int)) = false := decide_eq_false (by omega)
          go_wp2_with fail
          go_roundw
          case rel => exact ⟨k + 1, L, by omega, by go_num, HBW.out, HIR.out, Lib.hid HNN.out⟩
          case measure => simp [intOf]; omega
    · have i4 : decide ((k : Int) < (m : Int)) = false := decide_eq_false (by omega)
      have HX := Lib.hid (show BeginPost ps.length w (.returned (.slice (some ⟨g, 0, none⟩) ps.length ps.length)) wr from ⟨L, g, HIR.out.len2, HNN.out, rfl, HIR.out.base HB0.out.size, below_next HB0.out HBW.out⟩)
      go_wp2_with fail
      go_ret
      exact HX.out
end Go.Proofs.YtngjakahanmepaaGreatDoor
namespace Go.Proofs.YtngjakahanmepaaGreatDoor
open Go.RowKit
set_option linter.unusedVariables false
set_option linter.unusedSimpArgs false
theorem dayG_snoc : ∀ (l : List Ra) (L : List Int) (r : Ra), dayG L (l ++ [r]) = dayG L l ++ [getF (dayL L l) r.1 r.2]
  | [], _, _ => rfl
  | x :: l, L, r => by
    show getF L x.1 x.2 :: dayG _ (l ++ [r]) = _
    rw [dayG_snoc l]; rfl
theorem dayL_snoc : ∀ (l : List Ra) (L : List Int) (r : Ra), dayL L (l ++ [r]) = lessF (dayL L l) r.2 (getF (dayL L l) r.1 r.2)
  | [], _, _ => rfl
  | x :: l, L, r => dayL_snoc l _ r
/-! rights -/
structure Rt where
  id : Int
  own : Int
  date : Int
  pla : Int
  rate : Int
  fr : Int
  un : Int
  bk : Int
  bt : Int
def rtc (x : Rt) : List Value := [.int .i64 x.id, .int .i64 x.own, .int .i64 x.date, .int .i64 x.pla, .int .i64 x.rate, .int .i64 x.fr, .int .i64 x.un, .int .i64 x.bk, .int .i64 x.bt]
theorem rtc_length (x : Rt) : (rtc x).length = 9 := rfl
def rtCells (l : List Rt) : List Value := l.flatMap rtc
theorem rtCells_length (l : List Rt) : (rtCells l).length = l.length * 9 := flat_len rtc 9 rtc_length l
def rt0 : Rt := ⟨0, 0, 0, 0, 0, 0, 0, 0, 0⟩
def rt (l : List Rt) (k : Nat) : Rt := l.getD k rt0
theorem rt_at {l : List Rt} {i : Nat} (h : i < l.length) : rt l i = l[i] := by simp [rt, List.getD, h]
theorem Rd.rt {A : Option Addr} {l : List Rt} {w : World} (h : Rd w A (rtCells l)) {k : Nat} (hk : k < l.length) :
    ∃ ad b o, A = some ad ∧ b < w.heap.size ∧ ad.add (k * 9) = ⟨b, o, none⟩ ∧ w.rangeAt b o (rtc (rt l k)) := by
  rw [rt_at hk]
  exact Rd.row rtc 9 rtc_length (by omega) h hk
def ra (D : List Dn) (x : Rt) : Ra := (x.rate, reachF D x.pla)
def ras (D : List Dn) (rs : List Rt) : List Ra := rs.map (ra D)
theorem ras_length (D : List Dn) (rs : List Rt) : (ras D rs).length = rs.length := by simp [ras]
theorem ras_take {D : List Dn} {rs : List Rt} {k : Nat} (h : k < rs.length) : ras D (rs.take (k + 1)) = ras D (rs.take k) ++ [ra D (rt rs k)] := by
  rw [List.take_succ_eq_append_getElem h, rt_at h]
  unfold ras
  rw [List.map_append]
  rfl
/-- the grants -/
def grs (rs : List Rt) (G : List Int) : List Sp := (rs.map Rt.id).zip G
theorem grs_length {rs : List Rt} {G : List Int} (h : G.length = rs.length) : (grs rs G).length = rs.length := by simp [grs, h]
theorem grs_snoc {rs : List Rt} {G : List Int} (h : G.length = rs.length) (r : Rt) (g : Int) : grs (rs ++ [r]) (G ++ [g]) = grs rs G ++ [(r.id, g)] := by
  unfold grs
  rw [List.map_append, List.zip_append (by simp [h])]
  rfl
theorem grs_at {rs : List Rt} {G : List Int} {k : Nat} (h : G.length = rs.length) (hk : k < rs.length) : gs (grs rs G) k = ((rt rs k).id, gi G k) := by
  have h1 : k < (grs rs G).length := by rw [grs_length h]; exact hk
  rw [gs_at h1, rt_at hk]
  simp [grs, gi, List.getD, h, hk]
theorem leastF_min (L : List Int) : ∀ (R : List Nat) (r : Int), leastF L r R = minL r (R.map fun q => gi L q)
  | [], _ => rfl
  | q :: R, r => leastF_min L R _
theorem getF_min {L : List Int} {r : Int} {R : List Nat} (h : R ≠ []) : getF L r R = max 0 (minL r (R.map fun q => gi L q)) := by
  unfold getF
  rw [if_neg h, leastF_min]
theorem NonF.nonN {L : List Int} (h : NonF L) : NonN L := fun q hq => (h q hq).1
/-- the places of a list, one by one -/
theorem getD_is {R : List Nat} {j : Nat} (h : j < R.length) : R.getD j 0 = R[j] := by simp [List.getD, h]
theorem dis_take {n : Nat} {R : List Nat} {j : Nat} (h : DisL n R) (hj : j < R.length) : R.getD j 0 ∉ R.take j := fun hm => by
  have hn : (R.take (j + 1)).Nodup := List.Nodup.sublist (List.take_sublist _ _) h.1
  rw [List.take_succ_eq_append_getElem hj, List.nodup_append] at hn
  rw [getD_is hj] at hm
  exact hn.2.2 _ hm _ (by simp) rfl
theorem less_at {L : List Int} {R : List Nat} {g : Int} {j : Nat} (h : DisL L.length R) (hj : j < R.length) : gi (lessF L (R.take j) g) (R.getD j 0) = gi L (R.getD j 0) := by
  rw [lessF_at (h.2 _ (getD_mem hj)), if_neg (dis_take h hj)]
theorem less_set {L : List Int} {R : List Nat} {g : Int} {j : Nat} (h : DisL L.length R) (hj : j < R.length) :
    (lessF L (R.take j) g).set (R.getD j 0) (gi L (R.getD j 0) - g) = lessF L (R.take (j + 1)) g := by
  have hq := h.2 _ (getD_mem hj)
  have hmem : ∀ i, i ∈ R.take (j + 1) ↔ i ∈ R.take j ∨ i = R.getD j 0 := fun i => by
    rw [List.take_succ_eq_append_getElem hj, getD_is hj, List.mem_append, List.mem_singleton]
  refine gi_ext (by simp [lessF_length]) fun i hi => ?_
  rw [List.length_set, lessF_length] at hi
  by_cases e : R.getD j 0 = i
  · subst e
    rw [gi_set_same (by rw [lessF_length]; exact hq), lessF_at hq, if_pos ((hmem _).2 (.inr rfl))]
  · rw [gi_set_other e, lessF_at hi, lessF_at hi]
    by_cases e2 : i ∈ R.take j
    · rw [if_pos e2, if_pos ((hmem i).2 (.inl e2))]
    · rw [if_neg e2, if_neg (fun hm => ((hmem i).1 hm).elim e2 fun e3 => e e3.symm)]
theorem less_none {L : List Int} {R : List Nat} {g : Int} : lessF L (R.take 0) g = L := by
  refine gi_ext (by simp [lessF_length]) fun i hi => ?_
  rw [lessF_length] at hi
  rw [lessF_at hi, if_neg (by simp)]
theorem less_nonF {L : List Int} {R : List Nat} {g : Int} (hL : NonF L) (h0 : 0 ≤ g) (h : ∀ q ∈ R, g ≤ gi L q) : NonF (lessF L R g) := fun q hq => by
  rw [lessF_length] at hq
  rw [lessF_at hq]
  have := hL q hq
  split
  · rename_i hm
    have := h q hm
    omega
  · exact this
/-- what a day is, so far -/
structure DayS (L0 : List Int) (D : List Dn) (rs : List Rt) (k : Nat) (L : List Int) (G : List Int) : Prop where
  non : NonF L
  len : L.length = D.length
  left : L = dayL L0 (ras D (rs.take k))
  got : G = dayG L0 (ras D (rs.take k))
theorem DayS.glen {L0 : List Int} {D : List Dn} {rs : List Rt} {k : Nat} {L G : List Int} (h : DayS L0 D rs k L G) (hk : k ≤ rs.length) : G.length = k := by
  rw [h.got, dayG_length, ras_length, List.length_take]; omega
theorem DayS.step {L0 : List Int} {D : List Dn} {rs : List Rt} {k : Nat} {L G : List Int} (h : DayS L0 D rs k L G) (hk : k < rs.length) (hr : 0 ≤ (rt rs k).rate) :
    DayS L0 D rs (k + 1) (lessF L (reachF D (rt rs k).pla) (getF L (rt rs k).rate (reachF D (rt rs k).pla))) (G ++ [getF L (rt rs k).rate (reachF D (rt rs k).pla)]) := by
  have hR : ∀ q ∈ reachF D (rt rs k).pla, q < L.length := fun q hq => by rw [h.len]; exact (reachF_dis D _).2 q hq
  have hs := getF_spec (L := L) hr h.non.nonN hR
  refine ⟨less_nonF h.non hs.1 hs.2.2.1, by rw [lessF_length]; exact h.len, ?_, ?_⟩
  · rw [ras_take hk, dayL_snoc, ← h.left]; rfl
  · rw [ras_take hk, dayG_snoc, ← h.left, ← h.got]; rfl
end Go.Proofs.YtngjakahanmepaaGreatDoor
namespace Go.Proofs.YtngjakahanmepaaGreatDoor
open Go.RowKit
set_option linter.unusedVariables false
set_option linter.unusedSimpArgs false
def monL : List Int := [31, 29, 31, 30, 31, 30, 31, 31, 30, 31, 30, 31]
/-- the table of the months -/
def Mon (W : World) : Prop := ∀ i, i < 12 → W.cell? ⟨0, i, none⟩ = some (.int .i64 (gi monL i))
theorem Mon.below {B : Nat} {w w' : World} (h : Mon w) (hB : w.heap.size ≤ B) (hb : Below B w w') : Mon w' := fun i hi => by
  have hc := h i hi
  exact (hb.cell (Nat.lt_of_lt_of_le (World.block_lt_of_cell? _ _ hc) hB)).trans hc
def leapF (y : Int) : Bool := decide (y % 4 = 0 ∧ (y % 100 ≠ 0 ∨ y % 400 = 0))
set_option maxHeartbeats 4000000 in
theorem leap_any (y : Int) (h0 : 2000 ≤ y) (h1 : y ≤ 1000000) (w : World) :
    Calls Tryz.prog 115 #[.int .i64 y] w fun e w' => e = .returned (.bool (leapF y)) ∧ Below w.heap.size w w' := by
  go_enter Tryz.func115, Tryz.ntmps115
  go_wp2_with fail
  all_goals go_ret
  all_goals exact ⟨by simp_all [leapF] <;> rfl, by go_grown⟩
theorem leap_is {y : Int} {b : Bool} (h : leapF y = b) (h0 : 2000 ≤ y) (h1 : y ≤ 1000000) (w : World) :
    Calls Tryz.prog 115 #[.int .i64 y] w fun e w' => e = .returned (.bool b) ∧ Below w.heap.size w w' := h ▸ leap_any y h0 h1 w
def befF (y : Int) : Int := 365 * (y - 2000) + (y - 2000 + 3) / 4 - (y - 2000 + 99) / 100 + (y - 2000 + 399) / 400
theorem before_any (y : Int) (h0 : 2000 ≤ y) (h1 : y ≤ 1000000) (w : World) :
    Calls Tryz.prog 92 #[.int .i64 y] w fun e w' => e = .returned (.int .i64 (befF y)) ∧ Below w.heap.size w w' := by
  go_enter Tryz.func92, Tryz.ntmps92
  go_wp2_with fail
  go_ret
  exact ⟨rfl, by go_grown⟩
/-- the days of a month -/
def lenB (b : Bool) (m : Nat) : Int := if m = 2 ∧ b = false then 28 else gi monL (m - 1)
def lenF (y : Int) (m : Nat) : Int := lenB (leapF y) m
theorem lenB_fit : ∀ (b : Bool) (m : Nat), m < 13 → 1 ≤ m → 28 ≤ lenB b m ∧ lenB b m ≤ 31 := by decide
theorem lenB_all : ∀ b : Bool, su (fun i => lenB b (i + 1)) 12 = if b = true then 366 else 365 := by decide
set_option maxHeartbeats 4000000 in
theorem length_any (y : Int) (m : Nat) (h0 : 2000 ≤ y) (h1 : y ≤ 1000000) (hm : 1 ≤ m) (hm2 : m ≤ 12) (w : World) (hM : Mon w) :
    Calls Tryz.prog 93 #[.int .i64 y, .int .i64 (m : Int)] w fun e w' => e = .returned (.int .i64 (lenF y m)) ∧ Below w.heap.size w w' := by
  obtain ⟨i, rfl⟩ : ∃ i, m = i + 1 := ⟨m - 1, by omega⟩
  have hi : i < 12 := by omega
  have HM := Lib.hid hM
  have hl : lenF y (i + 1) = if i = 1 ∧ leapF y = false then 28 else gi monL i := by unfold lenF lenB; rw [Nat.add_sub_cancel]; by_cases h : i = 1 <;> simp [h]
  rw [hl]
  obtain ⟨mi, hmi⟩ : ∃ x : Int, ((i + 1 : Nat) : Int) = x := ⟨_, rfl⟩
  have hmi2 : mi = (i : Int) + 1 := by omega
  rw [hmi]
  have wS : mi - 1 = (i : Int) := by omega
  have j1 : (0 : Int) ≤ (i : Int) := by omega
  have j2 : (i : Int) < 12 := by omega
  have k1 : 1 ≤ mi := by omega
  have k2 : mi ≤ 12 := by omega
  clear hM hl hmi hm hm2
  by_cases h2 : i = 1
  · subst h2
    obtain rfl : mi = 2 := by omega
    cases hb : leapF y
    · have HL := Lib.hid (fun W => leap_is hb h0 h1 W)
      rw [if_pos ⟨rfl, rfl⟩]
      clear hb
      go_enter Tryz.func93, Tryz.ntmps93
      go_wp2_with (first | (go_at_call 115; (with_reducible refine (HL.out _).mono ?_); rintro e w2 ⟨rfl, hb2⟩))
      go_ret
      exact ⟨rfl, hb2⟩
    · have HL := Lib.hid (fun W => leap_is hb h0 h1 W)
      rw [if_neg (fun h => by cases h.2)]
      have HC := Lib.hid (fun (W : World) (h : Below w.heap.size w W) => (HM.out.below (Nat.le_refl _) h) 1 (by omega))
      clear hb
      go_enter Tryz.func93, Tryz.ntmps93
      go_wp2_with (first | (go_at_call 115; (with_reducible refine (HL.out _).mono ?_); rintro e w2 ⟨rfl, hb2⟩; have hc2 := HC.out _ hb2))
      go_ret
      exact ⟨rfl, hb2⟩
  · have n2 : decide (mi = 2) = false := decide_eq_false (by omega)
    have n3 : (mi == 2) = false := beq_eq_false_iff_ne.2 (by omega)
    rw [if_neg (fun h => h2 h.1)]
    have hc := HM.out i hi
    clear h2 hmi2
    go_enter Tryz.func93, Tryz.ntmps93
    go_wp2_with fail
    go_ret
    exact ⟨rfl, by go_grown⟩
theorem length_is {y : Int} {m : Nat} {x : Int} (h : lenF y m = x) (h0 : 2000 ≤ y) (h1 : y ≤ 1000000) (hm : 1 ≤ m) (hm2 : m ≤ 12) (w : World) (hM : Mon w) :
    Calls Tryz.prog 93 #[.int .i64 y, .int .i64 (m : Int)] w fun e w' => e = .returned (.int .i64 x) ∧ Below w.heap.size w w' := h ▸ length_any y m h0 h1 hm hm2 w hM
/-- a month that has a day in leap years -/
def existsF (m d : Int) : Bool := decide (1 ≤ m ∧ m ≤ 12 ∧ 1 ≤ d ∧ d ≤ gi monL (m - 1).toNat)
set_option maxHeartbeats 4000000 in
theorem exists_any (m d : Int) (w : World) (hM : Mon w) :
    Calls Tryz.prog 94 #[.int .i64 m, .int .i64 d] w fun e w' => e = .returned (.bool (existsF m d)) ∧ Below w.heap.size w w' := by
  have HM := Lib.hid hM
  clear hM
  by_cases h1 : 1 ≤ m
  case neg =>
    have t1 : decide (1 ≤ m) = false := decide_eq_false h1
    rw [show existsF m d = false from decide_eq_false (fun h => h1 h.1)]
    clear h1
    go_enter Tryz.func94, Tryz.ntmps94
    go_wp2_with fail
    go_ret
    exact ⟨rfl, by go_grown⟩
  by_cases h2 : m ≤ 12
  case neg =>
    have t1 : decide (1 ≤ m) = true := decide_eq_true h1
    have t2 : decide (m ≤ 12) = false := decide_eq_false h2
    rw [show existsF m d = false from decide_eq_false (fun h => h2 h.2.1)]
    clear h1 h2
    go_enter Tryz.func94, Tryz.ntmps94
    go_wp2_with fail
    go_ret
    exact ⟨rfl, by go_grown⟩
  by_cases h3 : 1 ≤ d
  case neg =>
    have t1 : decide (1 ≤ m) = true := decide_eq_true h1
    have t2 : decide (m ≤ 12) = true := decide_eq_true h2
    have t3 : decide (1 ≤ d) = false := decide_eq_false h3
    rw [show existsF m d = false from decide_eq_false (fun h => h3 h.2.2.1)]
    clear h1 h2 h3
    go_enter Tryz.func94, Tryz.ntmps94
    go_wp2_with fail
    go_ret
    exact ⟨rfl, by go_grown⟩
  have t1 : decide (1 ≤ m) = true := decide_eq_true h1
  have t2 : decide (m ≤ 12) = true := decide_eq_true h2
  have t3 : decide (1 ≤ d) = true := decide_eq_true h3
  obtain ⟨i, hi⟩ := Int.eq_ofNat_of_zero_le (show 0 ≤ m - 1 by omega)
  have hi2 : i < 12 := by omega
  have j1 : (0 : Int) ≤ (i : Int) := by omega
  have j2 : (i : Int) < 12 := by omega
  have hc := HM.out i hi2
  rw [show existsF m d = decide (d ≤ gi monL i) from decide_eq_decide.2 ⟨fun h => by have := h.2.2.2; rwa [hi, Int.toNat_natCast] at this, fun h => ⟨h1, h2, h3, by rwa [hi, Int.toNat_natCast]⟩⟩]
  obtain ⟨x, hx⟩ : ∃ x, gi monL i = x := ⟨_, rfl⟩
  rw [hx] at hc ⊢
  clear hx
  go_enter Tryz.func94, Tryz.ntmps94
  go_wp2_with fail
  go_ret
  exact ⟨rfl, by go_grown⟩
theorem exists_is {m d : Int} {b : Bool} (h : existsF m d = b) (w : World) (hM : Mon w) :
    Calls Tryz.prog 94 #[.int .i64 m, .int .i64 d] w fun e w' => e = .returned (.bool b) ∧ Below w.heap.size w w' := h ▸ exists_any m d w hM
end Go.Proofs.YtngjakahanmepaaGreatDoor
namespace Go.Proofs.YtngjakahanmepaaGreatDoor
open Go.RowKit
set_option linter.unusedVariables false
set_option linter.unusedSimpArgs false
/-- an answer of yes or no -/
structure SomeB (w : World) (e : Ending) (w' : World) : Prop where
  ans : ∃ b, e = .returned (.bool b)
  bel : Below w.heap.size w w'
set_option maxHeartbeats 16000000 in
theorem in_any (y m d h f u : Int) (w : World) (hM : Mon w) :
    Calls Tryz.prog 53 #[.agg #[.int .i64 y, .int .i64 m, .int .i64 d, .int .i64 h], .int .i64 f, .int .i64 u] w (SomeB w) := by
  have HM := Lib.hid hM
  clear hM
  go_enter Tryz.func53, Tryz.ntmps53
  go_upto_region 1 with fail
  refine wp_rebase _ (fun V hV x0 => ?_)
  have HB0 := Lib.hid (show Below w.heap.size w V by rw [hV]; exact bel_alloc (Below.refl _ _) _)
  have HBOX := Lib.hid (show V.rangeAt w.heap.size 0 [.int .i64 y, .int .i64 m, .int .i64 d, .int .i64 h] by rw [hV]; exact range_new _ _ [.int .i64 y, .int .i64 m, .int .i64 d, .int .i64 h])
  have HMV := Lib.hid (fun (x : BelW V) => (show Mon x.w from HM.out.below (Nat.le_refl _) (below_next HB0.out x.2)))
  clear hV
  have C1 := Lib.hid (fun (x : BelW V) {b : Bool} (h : existsF (wrap64 (f.tdiv 100)) (f.tmod 100) = b) => bel_of (x := x) (exists_is h x.w (HMV.out x)))
  have C2 := Lib.hid (fun (x : BelW V) {b : Bool} (h : existsF (wrap64 (u.tdiv 100)) (u.tmod 100) = b) => bel_of (x := x) (exists_is h x.w (HMV.out x)))
  have C3 := Lib.hid (fun (x : BelW V) {b : Bool} (h : existsF m d = b) => bel_of (x := x) (exists_is h x.w (HMV.out x)))
  have HE := Lib.hid (fun (z : BelW V) (b : Bool) => (show SomeB w (.returned (.bool b)) z.w from ⟨⟨b, rfl⟩, below_next HB0.out z.2⟩))
  have c1 := fun x : BelW V => (show x.w.cell? ⟨w.heap.size, 1, none⟩ = some (.int .i64 m) from BelW.range HBOX.out x 1 _ rfl)
  have c2 := fun x : BelW V => (show x.w.cell? ⟨w.heap.size, 2, none⟩ = some (.int .i64 d) from BelW.range HBOX.out x 2 _ rfl)
  cases hb1 : existsF (wrap64 (f.tdiv 100)) (f.tmod 100)
  case false =>
    go_wp2_with (first | (go_at_call 94; (with_reducible refine (C1.out _ hb1).mono ?_); rintro e w1 ⟨rfl, z1, rfl⟩))
    go_ret
    exact HE.out z1 _
  case true =>
  cases hb2 : existsF (wrap64 (u.tdiv 100)) (u.tmod 100)
  case false =>
    go_wp2_with (first | (go_at_call 94; (with_reducible refine (C1.out _ hb1).mono ?_); rintro e w1 ⟨rfl, z1, rfl⟩) | (go_at_call 94; (with_reducible refine (C2.out _ hb2).mono ?_); rintro e w1 ⟨rfl, z2, rfl⟩))
    go_ret
    exact HE.out z2 _
  case true =>
  cases hb3 : existsF m d
  case false =>
    go_wp2_with (first | (go_at_call 94; (with_reducible refine (C1.out _ hb1).mono ?_); rintro e w1 ⟨rfl, z1, rfl⟩) | (go_at_call 94; (with_reducible refine (C2.out _ hb2).mono ?_); rintro e w1 ⟨rfl, z2, rfl⟩) | (go_at_call 94; (with_reducible refine (C3.out _ hb3).mono ?_); rintro e w1 ⟨rfl, z3, rfl⟩))
    go_ret
    exact HE.out z3 _
  case true =>
    go_wp2_with (first | (go_at_call 94; (with_reducible refine (C1.out _ hb1).mono ?_); rintro e w1 ⟨rfl, z1, rfl⟩) | (go_at_call 94; (with_reducible refine (C2.out _ hb2).mono ?_); rintro e w1 ⟨rfl, z2, rfl⟩) | (go_at_call 94; (with_reducible refine (C3.out _ hb3).mono ?_); rintro e w1 ⟨rfl, z3, rfl⟩))
    all_goals go_ret
    all_goals exact HE.out z3 _
set_option maxHeartbeats 4000000 in
theorem monthday_any (n : Int) (w : World) (hM : Mon w) :
    Calls Tryz.prog 51 #[.int .i64 n] w (SomeB w) := by
  have HM := Lib.hid hM
  clear hM
  go_enter Tryz.func51, Tryz.ntmps51
  go_wp2_with (first | (go_at_call 53; (with_reducible refine (in_any _ _ _ _ _ _ _ HM.out).mono ?_); rintro e w1 ⟨⟨b, rfl⟩, hb⟩))
  go_ret
  exact ⟨⟨b, rfl⟩, hb⟩
end Go.Proofs.YtngjakahanmepaaGreatDoor
