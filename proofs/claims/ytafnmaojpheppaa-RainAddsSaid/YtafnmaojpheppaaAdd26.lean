/- RainAdds: the walk. -/
import Derived.Test.YtafnmaojpheppaaOpen26
import Derived.Test.YtafnmaojpheppaaRainL
import Derived.Test.YtafnmaojpheppaaSmall26
namespace Go.Proofs.Ytafnmaojpheppaa
open Go.RowKit
set_option linter.unusedVariables false
set_option linter.unusedSimpArgs false

def Apart (u v : Value) : Prop := ∀ g, u.ownBlock = some g → v.ownBlock = some g → False
theorem Apart.symm {u v : Value} (h : Apart u v) : Apart v u := fun g a b => h g b a
theorem Apart.keep {u v : Value} (h : Apart u v) : v.ownBlock = none ∨ v.ownBlock ≠ u.ownBlock := by
  cases hv : v.ownBlock with
  | none => exact .inl rfl
  | some g => exact .inr fun e => h g e.symm hv
abbrev OwS (w : World) (B : Nat) (u : Value) (n : Nat) (l : List Sp) : Prop := w.ownsRow B 40 2 u n (spCells l)
structure Tri (V w : World) (u1 u2 u3 : Value) (n1 n2 n3 : Nat) (l1 l2 l3 : List Sp) : Prop where
  below : Below V.heap.size V w
  o1 : OwS w V.heap.size u1 n1 l1
  o2 : OwS w V.heap.size u2 n2 l2
  o3 : OwS w V.heap.size u3 n3 l3
  a12 : Apart u1 u2
  a13 : Apart u1 u3
  a23 : Apart u2 u3
section
variable {V w w' : World} {u1 u2 u3 : Value} {n1 n2 n3 : Nat} {l1 l2 l3 : List Sp}
theorem Tri.next (h : Tri V w u1 u2 u3 n1 n2 n3 l1 l2 l3) (hb : Below w.heap.size w w') : Tri V w' u1 u2 u3 n1 n2 n3 l1 l2 l3 :=
  ⟨below_next h.below hb, own_below h.o1 hb, own_below h.o2 hb, own_below h.o3 hb, h.a12, h.a13, h.a23⟩
theorem Tri.rot (h : Tri V w u1 u2 u3 n1 n2 n3 l1 l2 l3) : Tri V w u2 u3 u1 n2 n3 n1 l2 l3 l1 := ⟨h.below, h.o2, h.o3, h.o1, h.a23, h.a12.symm, h.a13.symm⟩
theorem Tri.app (h : Tri V w u1 u2 u3 n1 n2 n3 l1 l2 l3) {g m cap H : Nat} {a b : Int} (hown : w'.ownsRow V.heap.size 40 2 (.slice (some ⟨g, 0, none⟩) m cap) m (spCells l1 ++ [.int .i64 a, .int .i64 b])) (hg : w.grownBy w' u1.ownBlock) (hat : u1.ownBlock = some g ∨ g = H) (hH : w.heap.size ≤ H) :
    Tri V w' (.slice (some ⟨g, 0, none⟩) m cap) u2 u3 m n2 n3 (l1 ++ [(a, b)]) l2 l3 := by
  have ap : ∀ v : Value, Apart u1 v → (∀ i, v.ownBlock = some i → i < w.heap.size) → Apart (.slice (some ⟨g, 0, none⟩) m cap) v := fun v hv hlt i h1 h2 => by
    simp [Value.ownBlock] at h1
    subst h1
    rcases hat with e | e
    · exact hv _ e h2
    · have := hlt _ h2; omega
  refine ⟨h.below.grown hg h.below.size (fun i hi => (h.o1.lt i hi).1), by unfold OwS; rw [spCells_snoc]; exact hown, h.o2.kept hg h.a12.keep, h.o3.kept hg h.a13.keep, ap _ h.a12 (fun i hi => (h.o2.lt i hi).2), ap _ h.a13 (fun i hi => (h.o3.lt i hi).2), h.a23⟩
end
theorem exs_take {mm : List Int} {k : Nat} (hk : k < mm.length) : exs (mm.take (k + 1)) = exs (mm.take k) ++ [(gi mm k, gi mm k)] := by
  have : gi mm k = mm[k] := by simp [gi, List.getD, hk]
  rw [this, List.take_succ_eq_append_getElem hk]
  unfold exs
  rw [List.map_append]
  rfl
def sums2 (one two : List Int) : List Int := (List.range one.length).map fun i => gi one i + gi two i
theorem sums2_length (one two : List Int) : (sums2 one two).length = one.length := by simp [sums2]
theorem sums2_at {one two : List Int} {i : Nat} (h : i < one.length) : gi (sums2 one two) i = gi one i + gi two i := gi_map h
theorem meshF_both (mm : List Int) (rain : List Sp) : meshF Prod.snd (exs mm) rain = meshF Prod.fst (exs mm) rain := by
  have e : ∀ j, j < (exs mm).length → (gs (exs mm) j).2 = (gs (exs mm) j).1 := fun j hj => by
    rw [exs_length] at hj
    rw [exs_at hj]
  have h1 : meshF Prod.snd (exs mm) rain ≤ meshF Prod.fst (exs mm) rain := meshF_mono rfl (fun j hj => by rw [e j hj]; exact Int.le_refl _) rain
  have h2 : meshF Prod.fst (exs mm) rain ≤ meshF Prod.snd (exs mm) rain := meshF_mono rfl (fun j hj => by rw [e j hj]; exact Int.le_refl _) rain
  omega
def BdI (one two : List Int) (k : Nat) : Prop := ∀ i, i < k → (0 ≤ gi one i ∧ gi one i ≤ 65536) ∧ (0 ≤ gi two i ∧ gi two i ≤ 65536)
def AdR (V : World) (one two : List Int) (s9 s10 s11 s12 : Value) (wr : World) : Prop := ∃ k : Nat, k ≤ one.length ∧ s12 = .int .i64 (k : Int) ∧ Hid (BdI one two k) ∧ Tri V wr s9 s10 s11 k k k (exs (one.take k)) (exs (two.take k)) (exs ((sums2 one two).take k))
def AdP (V : World) (ps : List Pr) (s13 : Value) (wr : World) : Prop := ∃ k : Nat, k ≤ ps.length ∧ s13 = .int .i64 (k : Int) ∧ Hid (∀ i, i < k → ∀ c ∈ (pr ps i).rain, c.2 ≤ 1048576) ∧ ∃ y : BelW V, wr = y.w
def AdC (V : World) (rain : List Sp) (s14 : Value) (wr : World) : Prop := ∃ m : Nat, m ≤ rain.length ∧ s14 = .int .i64 (m : Int) ∧ Hid (∀ i, i < m → (gs rain i).2 ≤ 1048576) ∧ ∃ y : BelW V, wr = y.w
def AdL (V : World) (n : Nat) (s18 : Value) (wr : World) : Prop := ∃ k : Nat, k ≤ n ∧ s18 = .int .i64 (k : Int) ∧ ∃ y : BelW V, wr = y.w

set_option maxHeartbeats 64000000 in
set_option maxRecDepth 100000 in
theorem add26_any (d0 d1 : Value) (cn : Int) (B : Option Addr) (cb : Nat) (ps : List Pr) (d4 d5 : Value) (GA : Option Addr) (gc : Nat) (G : List Gg) (d7 d8 d9 d10 : Value) (OA : Option Addr) (oc : Nat) (one : List Int) (TA : Option Addr) (tc : Nat) (two : List Int)
    (hon : one.length ≤ 9223372036854775807) (htn : two.length ≤ 9223372036854775807) (w : World) (hB : Bas w cn B ps GA G) (hO : Rd w OA (ints one)) (hT : Rd w TA (ints two)) :
    Calls Try.prog 7 #[.agg #[d0, d1, .int .i64 cn, .slice B ps.length cb, d4, d5, .slice GA G.length gc, d7, d8, d9, d10], .slice OA one.length oc, .slice TA two.length tc] w fun e w' => e = .returned (.bool true) ∧ Below w.heap.size w w' := by
  have hgt := span_guardType
  have hst := span_stood
  obtain ⟨i0, hi0, hz0, hz1, hz2⟩ := info_parts info_span
  have INF := Lib.hid (And.intro hi0 (And.intro hz0 (And.intro hz1 hz2)))
  clear hi0 hz0 hz1 hz2
  go_enter Try.func7, Try.ntmps7
  go_upto_region 1 with fail
  refine wp_rebase _ (fun V hV x0 => ?_)
  have HB0 := Lib.hid (show Below w.heap.size w V by rw [hV]; exact bel_alloc (Below.refl _ _) _)
  have HBAS := Lib.hid (show V.rangeAt w.heap.size 0 [d0, d1, .int .i64 cn, .slice B ps.length cb, d4, d5, .slice GA G.length gc, d7, d8, d9, d10] by rw [hV]; exact range_new _ _ [d0, d1, .int .i64 cn, .slice B ps.length cb, d4, d5, .slice GA G.length gc, d7, d8, d9, d10])
  have HB := Lib.hid (hB.below (Nat.le_refl _) HB0.out)
  have HO := Lib.hid (hO.below (Nat.le_refl _) HB0.out)
  have HT := Lib.hid (hT.below (Nat.le_refl _) HB0.out)
  have CSm := Lib.hid (fun z : BelW V => bel_of (small_any z.w))
  have CFew := Lib.hid (fun z : BelW V => bel_of (few_any B none none cb 0 0 0 0 ps d0 d1 (.int .i64 cn) d4 d5 (.slice GA G.length gc) d7 d8 d9 d10 HB.out.pn z.w (HB.out.bel z).psm))
  clear hV hB hO hT
  go_upto_region 2 with (first | (go_at_call 8; (with_reducible refine (CSm.out _).mono ?_); rintro e w' ⟨rfl, y1, rfl⟩))
  have HRX := Lib.hid (BelW.range HBAS.out y1)
  clear CSm
  by_cases hf : fewP ps 0 0
  case neg =>
    rw [fewB_no hf] at CFew
    clear hf
    go_wp2_with (first | (with_reducible refine wpList_load_g 31 _ (by with_reducible rfl) _ _ (by with_unfolding_all rfl) (by with_unfolding_all rfl) _ _ HRX.out Try.underlying31 (by with_unfolding_all rfl) (by kernel_rfl) ?_) | (go_at_call 9; (with_reducible refine (CFew.out _).mono ?_); rintro e w' ⟨rfl, y2, rfl⟩))
    go_ret
    exact ⟨rfl, below_next HB0.out y2.2⟩
  rw [fewB_iff.2 hf] at CFew
  have HPN := Lib.hid (show ps.length ≤ 1000 ∧ (∀ x ∈ ps, x.rain.length ≤ 70) from ⟨by have := hf.1; omega, hf.2.2.2⟩)
  clear hf
  by_cases a1 : 64 < one.length
  · have t1 : decide ((64 : Int) < (one.length : Int)) = true := decide_eq_true (by omega)
    clear a1
    go_wp2_with (first | (with_reducible refine wpList_load_g 31 _ (by with_reducible rfl) _ _ (by with_unfolding_all rfl) (by with_unfolding_all rfl) _ _ HRX.out Try.underlying31 (by with_unfolding_all rfl) (by kernel_rfl) ?_) | (go_at_call 9; (with_reducible refine (CFew.out _).mono ?_); rintro e w' ⟨rfl, y2, rfl⟩))
    go_ret
    exact ⟨rfl, below_next HB0.out y2.2⟩
  have t1 : decide ((64 : Int) < (one.length : Int)) = false := decide_eq_false (by omega)
  by_cases a2 : one.length = two.length
  case neg =>
    have t2 : ((one.length : Int) != (two.length : Int)) = true := bne_iff_ne.2 (by omega)
    clear a1
    go_wp2_with (first | (with_reducible refine wpList_load_g 31 _ (by with_reducible rfl) _ _ (by with_unfolding_all rfl) (by with_unfolding_all rfl) _ _ HRX.out Try.underlying31 (by with_unfolding_all rfl) (by kernel_rfl) ?_) | (go_at_call 9; (with_reducible refine (CFew.out _).mono ?_); rintro e w' ⟨rfl, y2, rfl⟩))
    go_ret
    exact ⟨rfl, below_next HB0.out y2.2⟩
  have t2 : ((one.length : Int) != (two.length : Int)) = false := bne_eq_false_iff_eq.2 (by omega)
  have HLN := Lib.hid (And.intro (show one.length ≤ 64 by omega) a2)
  clear a1 a2
  go_upto_region 9 with (first | (with_reducible refine wpList_load_g 31 _ (by with_reducible rfl) _ _ (by with_unfolding_all rfl) (by with_unfolding_all rfl) _ _ HRX.out Try.underlying31 (by with_unfolding_all rfl) (by kernel_rfl) ?_) | (go_at_call 9; (with_reducible refine (CFew.out _).mono ?_); rintro e w' ⟨rfl, y2, rfl⟩))
  clear CFew HRX t2
  go_wp2_with fail
  go_loopw [9, 10, 11, 12] (fun s9 s10 s11 s12 wr => AdR V one two s9 s10 s11 s12 wr) (fun _ _ _ i _ => one.length - (intOf i).toNat)
  case atStart => exact ⟨0, by omega, rfl, Lib.hid (fun i hi => absurd hi (Nat.not_lt_zero _)), ⟨y2.2, World.ownsRow_nil _ _ _ _, World.ownsRow_nil _ _ _ _, World.ownsRow_nil _ _ _ _, (fun g h => by cases h), (fun g h => by cases h), (fun g h => by cases h)⟩⟩
  case round =>
    clear y2
    obtain ⟨k, hk, rfl, hbd, htri⟩ := hrel
    have h64 := HLN.out.1
    have HTr := Lib.hid htri
    have HBW := Lib.hid htri.below
    clear htri
    by_cases hlt : k < one.length
    · have i4 : decide ((k : Int) < (one.length : Int)) = true := decide_eq_true (by omega)
      have j1 : (0 : Int) ≤ (k : Int) := by omega
      have j2 : (k : Int) < (one.length : Int) := by omega
      have hlt2 : k < two.length := by have := HLN.out.2; omega
      have j3 : (k : Int) < (two.length : Int) := by omega
      obtain ⟨od, rfl, e1⟩ := rd_row (HO.out.below (Nat.le_refl _) HBW.out) hlt
      obtain ⟨td, rfl, e2⟩ := rd_row (HT.out.below (Nat.le_refl _) HBW.out) hlt2
      have HE1 := Lib.hid (exs_take hlt)
      have HE2 := Lib.hid (exs_take hlt2)
      have HE3 := Lib.hid (exs_take (mm := sums2 one two) (show k < (sums2 one two).length by rw [sums2_length]; exact hlt))
      rw [sums2_at hlt] at HE3
      have HBD := Lib.hid (show (0 ≤ gi one k ∧ gi one k ≤ 65536) → (0 ≤ gi two k ∧ gi two k ≤ 65536) → BdI one two (k + 1) from fun h1 h2 i hi => by
        by_cases e : i = k
        · subst e; exact ⟨h1, h2⟩
        · exact hbd.out i (by omega))
      obtain ⟨a, ha⟩ : ∃ a, gi one k = a := ⟨_, rfl⟩
      obtain ⟨b, hb⟩ : ∃ a, gi two k = a := ⟨_, rfl⟩
      rw [ha] at e1 HE1 HE3 HBD
      rw [hb] at e2 HE2 HE3 HBD
      have HEX := Lib.hid (below_next HB0.out HBW.out)
      have HEC := Lib.hid (And.intro ha hb)
      clear ha hb hbd
      by_cases c1 : a < 0
      · have u1 : decide (a < 0) = true := decide_eq_true c1
        clear c1
        go_wp2_with fail
        go_ret
        exact ⟨rfl, HEX.out⟩
      have u1 : decide (a < 0) = false := decide_eq_false c1
      by_cases c2 : 65536 < a
      · have u2 : decide (65536 < a) = true := decide_eq_true c2
        clear c2
        go_wp2_with fail
        go_ret
        exact ⟨rfl, HEX.out⟩
      have u2 : decide (65536 < a) = false := decide_eq_false c2
      by_cases c3 : b < 0
      · have u3 : decide (b < 0) = true := decide_eq_true c3
        clear c3
        go_wp2_with fail
        go_ret
        exact ⟨rfl, HEX.out⟩
      have u3 : decide (b < 0) = false := decide_eq_false c3
      by_cases c4 : 65536 < b
      · have u4 : decide (65536 < b) = true := decide_eq_true c4
        clear c4
        go_wp2_with fail
        go_ret
        exact ⟨rfl, HEX.out⟩
      have u4 : decide (65536 < b) = false := decide_eq_false c4
      have HBK := Lib.hid (HBD.out ⟨by omega, by omega⟩ ⟨by omega, by omega⟩)
      have wz : IntKind.i64.wrap (a + b) = a + b := IntWalk.i64_in _ (by omega)
      clear c1 c2 c3 c4 HBD
      have HMX := Lib.hid (show k + 1 ≤ maxLen ∧ (k + 1) * 16 ≤ 140737488355328 by unfold maxLen; constructor <;> omega)
      have HV := Lib.hid (fun (W : World) (hb : Below wr.heap.size wr W) => (show V.heap.size ≤ W.heap.size from (below_next HBW.out hb).size))
      go_wp2_with (first | (go_at_call 25; (with_reducible refine (of_any a _).mono ?_); rintro e w2 ⟨rfl, hb2⟩) | (at_builtin; refine wpList_append_lies _ rfl _ _ _ (by rfl) V.heap.size 40 i0 _ 2 16 Try.underlying33 INF.out.1 INF.out.2.1 INF.out.2.2.1 INF.out.2.2.2 rfl (by omega) _ k (spCells (exs (one.take k))) (by rfl) ((HTr.out.next hb2).o1.alloc _) ⟨w2.heap.size, 0, none⟩ 1 1 [.int .i64 a, .int .i64 a] (by rfl) (by rfl) (World.news_of_block (heap_alloc_new _ _)) (by simp [Value.oneCell']) (by omega) HMX.out.1 HMX.out.2 (Nat.le_trans (HV.out w2 hb2) (by simp)) (w2.heap.size + 1) (by simp) ?_))
      intro g1 cap1 w3 hown3 hgrow3 hat3 hl3
      have HTr2 := Lib.hid (show Tri V w3 (.slice (some ⟨g1, 0, none⟩) (k + 1) cap1) u10 u11 (k + 1) k k (exs (one.take (k + 1))) (exs (two.take k)) (exs ((sums2 one two).take k)) from by
        rw [HE1.out]
        exact ((HTr.out.next hb2).next (bel_alloc (Below.refl _ _) _)).app hown3 hgrow3 hat3 (by simp))
      have HR3 := Lib.hid (fun (W : World) (hW : Below V.heap.size V W) => (show W.cell? (od.add k) = some (.int .i64 a) ∧ W.cell? (td.add k) = some (.int .i64 b) from by
        obtain ⟨od', e', f1⟩ := rd_row (HO.out.below (Nat.le_refl _) hW) hlt
        obtain ⟨td', e'', f2⟩ := rd_row (HT.out.below (Nat.le_refl _) hW) hlt2
        cases e'
        cases e''
        rw [HEC.out.1] at f1
        rw [HEC.out.2] at f2
        exact ⟨f1, f2⟩))
      have e3 := (HR3.out w3 HTr2.out.below).2
      clear e1 e2 hown3 hgrow3 hat3 HTr
      have HV3 := Lib.hid (fun (W : World) (hb : Below w3.heap.size w3 W) => (show V.heap.size ≤ W.heap.size from (below_next HTr2.out.below hb).size))
      go_wp2_with (first | (go_at_call 25; (with_reducible refine (of_any b _).mono ?_); rintro e w4 ⟨rfl, hb4⟩) | (at_builtin; refine wpList_append_lies _ rfl _ _ _ (by rfl) V.heap.size 40 i0 _ 2 16 Try.underlying33 INF.out.1 INF.out.2.1 INF.out.2.2.1 INF.out.2.2.2 rfl (by omega) _ k (spCells (exs (two.take k))) (by rfl) ((HTr2.out.next hb4).o2.alloc _) ⟨w4.heap.size, 0, none⟩ 1 1 [.int .i64 b, .int .i64 b] (by rfl) (by rfl) (World.news_of_block (heap_alloc_new _ _)) (by simp [Value.oneCell']) (by omega) HMX.out.1 HMX.out.2 (Nat.le_trans (HV3.out w4 hb4) (by simp)) (w4.heap.size + 1) (by simp) ?_))
      intro g2 cap2 w5 hown5 hgrow5 hat5 hl5
      have HTr3 := Lib.hid (show Tri V w5 (.slice (some ⟨g1, 0, none⟩) (k + 1) cap1) (.slice (some ⟨g2, 0, none⟩) (k + 1) cap2) u11 (k + 1) (k + 1) k (exs (one.take (k + 1))) (exs (two.take (k + 1))) (exs ((sums2 one two).take k)) from by
        rw [HE2.out]
        exact (((HTr2.out.next hb4).next (bel_alloc (Below.refl _ _) _)).rot.app hown5 hgrow5 hat5 (by simp)).rot.rot)
      clear e3 hown5 hgrow5 hat5 HTr2 hb4 hb2
      go_upto_region 15 with fail
      refine wp_rebase _ (fun X hX x1 => ?_)
      have HTr4 := Lib.hid (show Tri V X (.slice (some ⟨g1, 0, none⟩) (k + 1) cap1) (.slice (some ⟨g2, 0, none⟩) (k + 1) cap2) u11 (k + 1) (k + 1) k (exs (one.take (k + 1))) (exs (two.take (k + 1))) (exs ((sums2 one two).take k)) by rw [hX]; exact HTr3.out)
      have r1 := fun z : BelW V => (show z.w.cell? (od.add k) = some (.int .i64 a) from (HR3.out z.w z.2).1)
      have r2 := fun z : BelW V => (show z.w.cell? (td.add k) = some (.int .i64 b) from (HR3.out z.w z.2).2)
      have HS0 := Lib.hid (show ∃ z : BelW V, x1.w.drew = z.w from ⟨⟨_, (below_next HTr4.out.below x1.2).drew⟩, rfl⟩)
      clear hX HTr3 HV HV3
      refine wp_region_tail 13 (fun w' => ∃ z : BelW V, w' = z.w) (by kernel_rfl) (by kernel_rfl) HS0.out ?_
      refine wpK_take (i := 0) (v := ?v0) (by kernel_rfl) rfl (by omega) (by kernel_rfl) (by kernel_rfl) (fun _ _ _ h => h) (Or.inl ⟨by rfl, ?y0⟩) HS0.out ?_
      case y0 => intro w1 hS; (go_simp <;> with_reducible rfl)
      simp only [Act.put, List.setIfInBounds_toArray, List.set_cons_zero, List.set_cons_succ]
      refine wpK_take (i := 1) (v := ?v1) (by kernel_rfl) rfl (by omega) (by kernel_rfl) (by kernel_rfl) (fun _ _ _ h => h) (Or.inl ⟨by rfl, ?y1⟩) HS0.out ?_
      case y1 => intro w1 hS; (go_simp <;> with_reducible rfl)
      simp only [Act.put, List.setIfInBounds_toArray, List.set_cons_zero, List.set_cons_succ]
      refine wpK_take (i := 2) (v := ?v2) (by kernel_rfl) rfl (by omega) (by kernel_rfl) (by kernel_rfl) (fun _ _ _ h => h) (Or.inl ⟨by rfl, ?y2⟩) HS0.out ?_
      case y2 => intro w1 hS; (go_simp <;> with_reducible rfl)
      simp only [Act.put, List.setIfInBounds_toArray, List.set_cons_zero, List.set_cons_succ]
      refine wpK_take (i := 3) (v := ?v3) (by kernel_rfl) rfl (by omega) (by kernel_rfl) (by kernel_rfl) (fun _ _ _ h => h) (Or.inl ⟨by rfl, ?y3⟩) HS0.out ?_
      case y3 => intro w1 hS; (go_simp <;> with_reducible rfl)
      simp only [Act.put, List.setIfInBounds_toArray, List.set_cons_zero, List.set_cons_succ]
      refine wpK_take (i := 4) (v := ?v4) (by kernel_rfl) rfl (by omega) (by kernel_rfl) (by kernel_rfl) (fun _ _ _ h => h) (Or.inl ⟨by rfl, ?y4⟩) HS0.out ?_
      case y4 => intro w1 hS; obtain ⟨z, rfl⟩ := hS; (go_simp <;> with_reducible rfl)
      simp only [Act.put, List.setIfInBounds_toArray, List.set_cons_zero, List.set_cons_succ]
      refine wpK_take (i := 5) (v := ?v5) (by kernel_rfl) rfl (by omega) (by kernel_rfl) (by kernel_rfl) (fun _ _ _ h => h) (Or.inl ⟨by rfl, ?y5⟩) HS0.out ?_
      case y5 => intro w1 hS; (go_simp <;> with_reducible rfl)
      simp only [Act.put, List.setIfInBounds_toArray, List.set_cons_zero, List.set_cons_succ]
      refine wpK_take (i := 6) (v := ?v6) (by kernel_rfl) rfl (by omega) (by kernel_rfl) (by kernel_rfl) (fun _ _ _ h => h) (Or.inl ⟨by rfl, ?y6⟩) HS0.out ?_
      case y6 => intro w1 hS; (go_simp <;> with_reducible rfl)
      simp only [Act.put, List.setIfInBounds_toArray, List.set_cons_zero, List.set_cons_succ]
      refine wpK_take (i := 7) (v := ?v7) (by kernel_rfl) rfl (by omega) (by kernel_rfl) (by kernel_rfl) (fun _ _ _ h => h) (Or.inl ⟨by rfl, ?y7⟩) HS0.out ?_
      case y7 => intro w1 hS; (go_simp <;> with_reducible rfl)
      simp only [Act.put, List.setIfInBounds_toArray, List.set_cons_zero, List.set_cons_succ]
      refine wpK_take (i := 8) (v := ?v8) (by kernel_rfl) rfl (by omega) (by kernel_rfl) (by kernel_rfl) (fun _ _ _ h => h) (Or.inl ⟨by rfl, ?y8⟩) HS0.out ?_
      case y8 => intro w1 hS; obtain ⟨z, rfl⟩ := hS; (go_simp <;> with_reducible rfl)
      simp only [Act.put, List.setIfInBounds_toArray, List.set_cons_zero, List.set_cons_succ]
      refine wpK_take (i := 9) (v := ?v9) (by kernel_rfl) rfl (by omega) (by kernel_rfl) (by kernel_rfl) (fun _ _ _ h => h) (Or.inl ⟨by rfl, ?y9⟩) HS0.out ?_
      case y9 => intro w1 hS; (go_simp <;> with_reducible rfl)
      simp only [Act.put, List.setIfInBounds_toArray, List.set_cons_zero, List.set_cons_succ]
      refine wpK_one 10 rfl (by omega) (by kernel_rfl) ?_
      go_wp2_with fail
      refine (bel_of (x := (⟨_, x1.2.drew⟩ : BelW X)) (of_any (a + b) _)).mono ?_
      rintro e w' ⟨rfl, z1, rfl⟩
      go_wp2_with fail
      refine ⟨⟨⟨z1.w, below_next HTr4.out.below z1.2⟩, rfl⟩, ?_⟩
      refine wpK_one 11 rfl (by omega) (by kernel_rfl) ?_
      go_wp2_with fail
      refine ⟨⟨⟨_, bel_alloc (below_next HTr4.out.below z1.2) _⟩, rfl⟩, ?_⟩
      refine wpK_one 12 rfl (by omega) (by kernel_rfl) ?_
      have HV5 := Lib.hid (show V.heap.size ≤ z1.w.heap.size from (below_next HTr4.out.below z1.2).size)
      have HO5 := Lib.hid (show OwS z1.w V.heap.size u11 k (exs ((sums2 one two).take k)) from (HTr4.out.next z1.2).o3)
      refine wpList_append_lies _ rfl _ _ _ (by rfl) V.heap.size 40 i0 _ 2 16 Try.underlying33 INF.out.1 INF.out.2.1 INF.out.2.2.1 INF.out.2.2.2 rfl (by omega) _ k (spCells (exs ((sums2 one two).take k))) (by rfl) (HO5.out.alloc _) ⟨z1.w.heap.size, 0, none⟩ 1 1 [.int .i64 (a + b), .int .i64 (a + b)] (by rfl) (by rfl) (World.news_of_block (heap_alloc_new _ _)) (by simp [Value.oneCell']) (by omega) HMX.out.1 HMX.out.2 (Nat.le_trans HV5.out (by simp)) (z1.w.heap.size + 1) (by simp) ?_
      intro g3 cap3 w7 hown7 hgrow7 hat7 hl7
      have HTr5 := Lib.hid (show Tri V w7 (.slice (some ⟨g1, 0, none⟩) (k + 1) cap1) (.slice (some ⟨g2, 0, none⟩) (k + 1) cap2) (.slice (some ⟨g3, 0, none⟩) (k + 1) cap3) (k + 1) (k + 1) (k + 1) (exs (one.take (k + 1))) (exs (two.take (k + 1))) (exs ((sums2 one two).take (k + 1))) from by
        rw [HE3.out]
        exact (((Tri.next (w' := z1.w) HTr4.out z1.2).next (bel_alloc (Below.refl _ _) _)).rot.rot.app hown7 hgrow7 hat7 (by simp)).rot)
      clear hown7 hgrow7 hat7 HO5
      go_wp2_with fail
      refine ⟨⟨⟨w7, HTr5.out.below⟩, rfl⟩, wpK_done (by kernel_rfl) ?_⟩
      simp only [List.drop_succ_cons, List.drop_zero]
      go_wp2_with fail
      go_roundw
      case rel => exact ⟨k + 1, by omega, by go_num, Lib.hid HBK.out, HTr5.out⟩
      case measure => simp [intOf]; omega
    · have i4 : decide ((k : Int) < (one.length : Int)) = false := decide_eq_false (by omega)
      obtain rfl : k = one.length := by omega
      have HBD := Lib.hid hbd.out
      have e1 : one.take one.length = one := List.take_length
      have e2 : two.take one.length = two := List.take_of_length_le (by have := HLN.out.2; omega)
      have e3 : (sums2 one two).take one.length = sums2 one two := List.take_of_length_le (by rw [sums2_length]; exact Nat.le_refl _)
      have htr := HTr.out
      rw [e1, e2, e3] at htr
      obtain ⟨C1, k1, rfl, -, hc1⟩ := own_slice htr.o1
      obtain ⟨C2, k2, rfl, -, hc2⟩ := own_slice htr.o2
      obtain ⟨C3, k3, rfl, -, hc3⟩ := own_slice htr.o3
      clear e1 e2 e3 htr HTr hbd
      go_upto_region 16 with fail
      refine wp_rebase _ (fun P hP p0 => ?_)
      have HBP := Lib.hid (show Below V.heap.size V P by rw [hP]; exact HBW.out)
      have HC1 := Lib.hid (show Rd P C1 (spCells (exs one)) by rw [hP]; exact hc1)
      have HC2 := Lib.hid (show Rd P C2 (spCells (exs two)) by rw [hP]; exact hc2)
      have HC3 := Lib.hid (show Rd P C3 (spCells (exs (sums2 one two))) by rw [hP]; exact hc3)
      have HB1 := Lib.hid (HB.out.below (Nat.le_refl _) HBP.out)
      have HRX := Lib.hid (show P.rangeAt w.heap.size 0 [d0, d1, .int .i64 cn, .slice B ps.length cb, d4, d5, .slice GA G.length gc, d7, d8, d9, d10] from BelW.range HBAS.out ⟨P, HBP.out⟩)
      have HBPw := Lib.hid (below_next HB0.out HBP.out)
      clear hP hc1 hc2 hc3 HBW HB HO HT
      have hpl := HPN.out.1
      go_wp2_with fail
      go_loopw [13] (fun s13 wr => AdP P ps s13 wr) (fun i _ => ps.length - (intOf i).toNat)
      case atStart => exact ⟨0, by omega, rfl, Lib.hid (fun i hi => absurd hi (Nat.not_lt_zero _)), p0, rfl⟩
      case round =>
        clear p0
        obtain ⟨m, hm, rfl, hpa, y, rfl⟩ := hrel
        have cb3 : y.w.cell? ⟨w.heap.size, 3, none⟩ = some (.slice B ps.length cb) := BelW.range HRX.out y 3 _ rfl
        have HYW := Lib.hid (below_next HBPw.out y.2)
        by_cases hlm : m < ps.length
        · have i5 : decide ((m : Int) < (ps.length : Int)) = true := decide_eq_true (by omega)
          have m1 : (0 : Int) ≤ (m : Int) := by omega
          have m2 : (m : Int) < (ps.length : Int) := by omega
          obtain ⟨pd, pb, po, rfl, -, hE, hr, hrr⟩ := (HB1.out.psm.bel y).at hlm
          have e11 : y.w.cell? ⟨pb, po + 11, none⟩ = some (.slice (pr ps m).A (pr ps m).rain.length (pr ps m).c) := hr 11 _ rfl
          have HRN := Lib.hid (show (pr ps m).rain.length ≤ 70 by rw [pr_at hlm]; exact HPN.out.2 _ (List.getElem_mem hlm))
          have HPX := Lib.hid (fun h : (∀ c ∈ (pr ps m).rain, c.2 ≤ 1048576) => (show ∀ i, i < m + 1 → ∀ c ∈ (pr ps i).rain, c.2 ≤ 1048576 from fun i hi => by
            by_cases e : i = m
            · subst e; exact h
            · exact hpa.out i (by omega)))
          obtain ⟨rain, hrain⟩ : ∃ x, (pr ps m).rain = x := ⟨_, rfl⟩
          obtain ⟨RA, hRA⟩ : ∃ x, (pr ps m).A = x := ⟨_, rfl⟩
          obtain ⟨rc, hrc⟩ : ∃ x, (pr ps m).c = x := ⟨_, rfl⟩
          rw [hrain, hRA, hrc] at e11
          rw [hrain, hRA] at hrr
          rw [hrain] at HRN HPX
          clear hr hrain hRA hrc hpa
          go_upto_region 19 with fail
          refine wp_rebase _ (fun Q hQ q0 => ?_)
          have HCB := Lib.hid (show Q.cell? ⟨w.heap.size, 3, none⟩ = some (.slice (some pd) ps.length cb) by rw [hQ]; exact cb3)
          have HC11 := Lib.hid (show Q.cell? ⟨pb, po + 11, none⟩ = some (.slice RA rain.length rc) by rw [hQ]; exact e11)
          have HRR := Lib.hid (show Rd Q RA (spCells rain) by rw [hQ]; exact hrr)
          have HBQ := Lib.hid (show Below P.heap.size P Q by rw [hQ]; exact y.2)
          clear hQ e11 hrr cb3
          go_wp2_with fail
          go_loopw [14] (fun s14 wr => AdC Q rain s14 wr) (fun i _ => rain.length - (intOf i).toNat)
          case atStart => exact ⟨0, by omega, rfl, Lib.hid (fun i hi => absurd hi (Nat.not_lt_zero _)), q0, rfl⟩
          case round =>
            clear q0
            obtain ⟨j, hj, rfl, hca, z, rfl⟩ := hrel
            have hrn := HRN.out
            have g3 := BelW.cells HCB.out z
            have g11 := BelW.cells HC11.out z
            by_cases hlj : j < rain.length
            · have i6 : decide ((j : Int) < (rain.length : Int)) = true := decide_eq_true (by omega)
              have n1 : (0 : Int) ≤ (j : Int) := by omega
              have n2 : (j : Int) < (rain.length : Int) := by omega
              obtain ⟨rd, rb, ro, rfl, -, hE2, f1, f2⟩ := (HRR.out.bel z).span hlj
              have HCX := Lib.hid (fun h : (gs rain j).2 ≤ 1048576 => (show ∀ i, i < j + 1 → (gs rain i).2 ≤ 1048576 from fun i hi => by
                by_cases e : i = j
                · subst e; exact h
                · exact hca.out i (by omega)))
              obtain ⟨ar, har⟩ : ∃ x, (gs rain j).2 = x := ⟨_, rfl⟩
              rw [har] at f2 HCX
              clear har hca f1
              by_cases c1 : 1048576 < ar
              · have v1 : decide (1048576 < ar) = true := decide_eq_true c1
                have HXX := Lib.hid (below_next HBPw.out (below_next HBQ.out z.2))
                clear c1 HCX
                go_wp2_with fail
                go_ret
                exact ⟨rfl, HXX.out⟩
              · have v1 : decide (1048576 < ar) = false := decide_eq_false c1
                have HCY := Lib.hid (HCX.out (by omega))
                clear c1 HCX
                go_wp2_with fail
                go_roundw
                case rel => exact ⟨j + 1, by omega, by go_num, Lib.hid HCY.out, z, rfl⟩
                case measure => simp [intOf]; omega
            · have i6 : decide ((j : Int) < (rain.length : Int)) = false := decide_eq_false (by omega)
              obtain rfl : j = rain.length := by omega
              have HPY := Lib.hid (HPX.out (fun c hc => by
                obtain ⟨i, hi, rfl⟩ := List.getElem_of_mem hc
                have := hca.out i hi
                rwa [gs_at hi] at this))
              clear hca HPX
              go_wp2_with fail
              go_roundw
              case rel => exact ⟨m + 1, by omega, by go_num, Lib.hid HPY.out, ⟨z.w, below_next HBQ.out z.2⟩, rfl⟩
              case measure => simp [intOf]; omega
        · have i5 : decide ((m : Int) < (ps.length : Int)) = false := decide_eq_false (by omega)
          obtain rfl : m = ps.length := by omega
          have HAR := Lib.hid (show ∀ i, i < ps.length → ∀ c ∈ (pr ps i).rain, c.2 ≤ 1048576 from hpa.out)
          clear hpa
          have hl2 := HLN.out.2
          have hl1 := HLN.out.1
          have HRN7 := Lib.hid (show ∀ x ∈ ps, x.rain.length ≤ 1000 from fun x hx => by have := HPN.out.2 x hx; omega)
          have D1 := Lib.hid (fun (W : World) (hb : Below P.heap.size P W) => (show Calls Try.prog 13 #[.agg #[d0, d1, .int .i64 cn, .slice B ps.length cb, d4, d5, .slice GA G.length gc, d7, d8, d9, d10], .slice C1 one.length k1] W (SpPost (meshL (exs one) ps) W) from by
            have h := mesh_any B C1 cb k1 ps (exs one) d0 d1 (.int .i64 cn) d4 d5 (.slice GA G.length gc) d7 d8 d9 d10 hpl HRN7.out (by rw [exs_length]; omega) (fun x hx => (HB1.out.pok x hx).2) W (HB1.out.psm.below (Nat.le_refl _) hb) (HC1.out.below (Nat.le_refl _) hb)
            rwa [exs_length] at h))
          have D2 := Lib.hid (fun (W : World) (hb : Below P.heap.size P W) => (show Calls Try.prog 13 #[.agg #[d0, d1, .int .i64 cn, .slice B ps.length cb, d4, d5, .slice GA G.length gc, d7, d8, d9, d10], .slice C2 one.length k2] W (SpPost (meshL (exs two) ps) W) from by
            have h := mesh_any B C2 cb k2 ps (exs two) d0 d1 (.int .i64 cn) d4 d5 (.slice GA G.length gc) d7 d8 d9 d10 hpl HRN7.out (by rw [exs_length]; omega) (fun x hx => (HB1.out.pok x hx).2) W (HB1.out.psm.below (Nat.le_refl _) hb) (HC2.out.below (Nat.le_refl _) hb)
            rwa [exs_length, ← hl2] at h))
          have D3 := Lib.hid (fun (W : World) (hb : Below P.heap.size P W) => (show Calls Try.prog 13 #[.agg #[d0, d1, .int .i64 cn, .slice B ps.length cb, d4, d5, .slice GA G.length gc, d7, d8, d9, d10], .slice C3 one.length k3] W (SpPost (meshL (exs (sums2 one two)) ps) W) from by
            have h := mesh_any B C3 cb k3 ps (exs (sums2 one two)) d0 d1 (.int .i64 cn) d4 d5 (.slice GA G.length gc) d7 d8 d9 d10 hpl HRN7.out (by rw [exs_length, sums2_length]; omega) (fun x hx => (HB1.out.pok x hx).2) W (HB1.out.psm.below (Nat.le_refl _) hb) (HC3.out.below (Nat.le_refl _) hb)
            rwa [exs_length, sums2_length] at h))
          have HW := Lib.hid (fun i (hi : i < ps.length) => (show ∃ a b : Int, gs (meshL (exs one) ps) i = (a, a) ∧ gs (meshL (exs two) ps) i = (b, b) ∧ gs (meshL (exs (sums2 one two)) ps) i = (a + b, a + b) ∧ (0 ≤ a ∧ a ≤ 17592186044416) ∧ (0 ≤ b ∧ b ≤ 17592186044416) ∧ ((pr ps i).rain.length = 0 → a = 0) by
            have hrl : (pr ps i).rain.length ≤ 70 := by rw [pr_at hi]; exact HPN.out.2 _ (List.getElem_mem hi)
            obtain ⟨h1, h2, h3⟩ := mesh_adds hl2 (sums2_length one two) (fun i hi => (HBD.out i hi).1) (fun i hi => (HBD.out i hi).2) (fun i hi => sums2_at hi) (pr ps i).rain (HAR.out i hi)
            have h3' := h3 (by omega)
            refine ⟨meshS Prod.fst (exs one) (pr ps i).rain, meshS Prod.fst (exs two) (pr ps i).rain, ?_, ?_, ?_, ⟨h1.1, by omega⟩, ⟨h2.1, by omega⟩, fun h0 => by rw [List.eq_nil_of_length_eq_zero h0]; rfl⟩
            · rw [meshL_at hi]
              unfold meshP
              rw [meshF_both]
              unfold meshF
              rw [show min (meshS Prod.fst (exs one) (pr ps i).rain) 1125899906842624 = meshS Prod.fst (exs one) (pr ps i).rain by omega]
            · rw [meshL_at hi]
              unfold meshP
              rw [meshF_both]
              unfold meshF
              rw [show min (meshS Prod.fst (exs two) (pr ps i).rain) 1125899906842624 = meshS Prod.fst (exs two) (pr ps i).rain by omega]
            · rw [meshL_at hi]
              unfold meshP
              rw [meshF_both]
              unfold meshF
              rw [h3', show min (meshS Prod.fst (exs one) (pr ps i).rain + meshS Prod.fst (exs two) (pr ps i).rain) 1125899906842624 = meshS Prod.fst (exs one) (pr ps i).rain + meshS Prod.fst (exs two) (pr ps i).rain by omega]))
          have HLx := Lib.hid (meshL_length (exs one) ps)
          have HLy := Lib.hid (meshL_length (exs two) ps)
          have HLz := Lib.hid (meshL_length (exs (sums2 one two)) ps)
          obtain ⟨xs, hxs⟩ : ∃ l, meshL (exs one) ps = l := ⟨_, rfl⟩
          obtain ⟨ys, hys⟩ : ∃ l, meshL (exs two) ps = l := ⟨_, rfl⟩
          obtain ⟨zs, hzs⟩ : ∃ l, meshL (exs (sums2 one two)) ps = l := ⟨_, rfl⟩
          rw [hxs] at D1 HW HLx
          rw [hys] at D2 HW HLy
          rw [hzs] at D3 HW HLz
          have hnx := HLx.out
          have hny := HLy.out
          have hnz := HLz.out
          have HRX0 := Lib.hid (BelW.range HRX.out y)
          clear hxs hys hzs hl2 HC1 HC2 HC3
          go_wp2_with (first | (with_reducible refine wpList_load_g 31 _ (by with_reducible rfl) _ _ (by with_unfolding_all rfl) (by with_unfolding_all rfl) _ _ HRX0.out Try.underlying31 (by with_unfolding_all rfl) (by kernel_rfl) ?_))
          refine (D1.out _ y.2).mono ?_
          rintro e w4 ⟨A1, c1, rfl, -, -, hr1, hb1⟩
          have HB4 := Lib.hid (below_next y.2 hb1)
          have HX4 := Lib.hid hr1
          have HRX4 := Lib.hid (show w4.rangeAt w.heap.size 0 [d0, d1, .int .i64 cn, .slice B ps.length cb, d4, d5, .slice GA G.length gc, d7, d8, d9, d10] from BelW.range HRX.out ⟨w4, HB4.out⟩)
          clear hr1 hb1 HRX0
          go_wp2_with (first | (with_reducible refine wpList_load_g 31 _ (by with_reducible rfl) _ _ (by with_unfolding_all rfl) (by with_unfolding_all rfl) _ _ HRX4.out Try.underlying31 (by with_unfolding_all rfl) (by kernel_rfl) ?_))
          refine (D2.out _ HB4.out).mono ?_
          rintro e w5 ⟨A2, c2, rfl, -, -, hr2, hb2⟩
          have HB5 := Lib.hid (below_next HB4.out hb2)
          have HX5 := Lib.hid (HX4.out.below (Nat.le_refl _) hb2)
          have HY5 := Lib.hid hr2
          have HRX5 := Lib.hid (show w5.rangeAt w.heap.size 0 [d0, d1, .int .i64 cn, .slice B ps.length cb, d4, d5, .slice GA G.length gc, d7, d8, d9, d10] from BelW.range HRX.out ⟨w5, HB5.out⟩)
          clear hr2 hb2 HRX4 HX4
          go_wp2_with (first | (with_reducible refine wpList_load_g 31 _ (by with_reducible rfl) _ _ (by with_unfolding_all rfl) (by with_unfolding_all rfl) _ _ HRX5.out Try.underlying31 (by with_unfolding_all rfl) (by kernel_rfl) ?_))
          refine (D3.out _ HB5.out).mono ?_
          rintro e w6 ⟨A3, c3, rfl, -, -, hr3, hb3⟩
          have HB6 := Lib.hid (below_next HB5.out hb3)
          have HX6 := Lib.hid (HX5.out.below (Nat.le_refl _) hb3)
          have HY6 := Lib.hid (HY5.out.below (Nat.le_refl _) hb3)
          have HZ6 := Lib.hid hr3
          have cb6 : w6.cell? ⟨w.heap.size, 3, none⟩ = some (.slice B ps.length cb) := BelW.range HRX.out ⟨w6, HB6.out⟩ 3 _ rfl
          clear hr3 hb3 HRX5 HX5 HY5
          rw [hnz]
          have tn : ((ps.length : Int) != (ps.length : Int)) = false := bne_eq_false_iff_eq.2 rfl
          go_upto_region 29 with fail
          refine wp_rebase _ (fun T hT t0 => ?_)
          rw [← hT] at HX6 HY6 HZ6
          have HBT := Lib.hid (show Below P.heap.size P T by rw [hT]; exact HB6.out)
          have HB2 := Lib.hid (HB1.out.below (Nat.le_refl _) HBT.out)
          have HRT := Lib.hid (show T.rangeAt w.heap.size 0 [d0, d1, .int .i64 cn, .slice B ps.length cb, d4, d5, .slice GA G.length gc, d7, d8, d9, d10] from BelW.range HRX.out ⟨T, HBT.out⟩)
          clear hT HB6 HB5 HB4 D1 D2 D3 cb6 cb3
          go_wp2_with fail
          go_loopw [18] (fun s18 wr => AdL T ps.length s18 wr) (fun i _ => ps.length - (intOf i).toNat)
          case atStart => exact ⟨0, by omega, rfl, t0, rfl⟩
          case round =>
            clear t0 HYW y
            obtain ⟨k, hk, rfl, y, rfl⟩ := hrel
            by_cases hlt : k < ps.length
            · have i6 : decide ((k : Int) < (ps.length : Int)) = true := decide_eq_true (by omega)
              have j1 : (0 : Int) ≤ (k : Int) := by omega
              have j2 : (k : Int) < (ps.length : Int) := by omega
              obtain ⟨xd, xb, xo, rfl, -, hE1, e1, e2⟩ := HX6.out.span (show k < xs.length by omega)
              obtain ⟨yd, yb, yo, rfl, -, hE2, e3, e4⟩ := HY6.out.span (show k < ys.length by omega)
              obtain ⟨zd, zb, zo, rfl, -, hE3, e5, e6⟩ := HZ6.out.span (show k < zs.length by omega)
              obtain ⟨pd, pb, po, rfl, -, hE4, hr, -⟩ := HB2.out.psm.at hlt
              have e11 : T.cell? ⟨pb, po + 11, none⟩ = some (.slice (pr ps k).A (pr ps k).rain.length (pr ps k).c) := hr 11 _ rfl
              obtain ⟨a, b, ha, hb, hab, ⟨a1, a2⟩, ⟨b1, b2⟩, hempty⟩ := HW.out k hlt
              have HRN := Lib.hid (show (pr ps k).rain.length ≤ 70 by rw [pr_at hlt]; exact HPN.out.2 _ (List.getElem_mem hlt))
              obtain ⟨rn, hrn⟩ : ∃ x, (pr ps k).rain.length = x := ⟨_, rfl⟩
              obtain ⟨RA, hRA⟩ : ∃ x, (pr ps k).A = x := ⟨_, rfl⟩
              obtain ⟨rc, hrc⟩ : ∃ x, (pr ps k).c = x := ⟨_, rfl⟩
              rw [hrn, hRA, hrc] at e11
              rw [hrn] at hempty HRN
              rw [ha] at e1 e2
              rw [hb] at e3 e4
              rw [hab] at e5 e6
              have g1 := fun z : BelW T => (show z.w.cell? ⟨xb, xo, none⟩ = some (.int .i64 a) from BelW.cells e1 z)
              have g2 := fun z : BelW T => (show z.w.cell? ⟨xb, xo + 1, none⟩ = some (.int .i64 a) from BelW.cells e2 z)
              have g3 := fun z : BelW T => (show z.w.cell? ⟨yb, yo, none⟩ = some (.int .i64 b) from BelW.cells e3 z)
              have g4 := fun z : BelW T => (show z.w.cell? ⟨yb, yo + 1, none⟩ = some (.int .i64 b) from BelW.cells e4 z)
              have g5 := fun z : BelW T => (show z.w.cell? ⟨zb, zo, none⟩ = some (.int .i64 (a + b)) from BelW.cells e5 z)
              have g6 := fun z : BelW T => (show z.w.cell? ⟨zb, zo + 1, none⟩ = some (.int .i64 (a + b)) from BelW.cells e6 z)
              have g7 := fun z : BelW T => (show z.w.cell? ⟨w.heap.size, 3, none⟩ = some (.slice (some pd) ps.length cb) from BelW.range HRT.out z 3 _ rfl)
              have g8 := fun z : BelW T => BelW.cells e11 z
              have CW := Lib.hid (fun z : BelW T => (show Calls Try.prog 26 #[.agg #[.int .i64 a, .int .i64 a]] z.w fun e w' => e = .returned (.int .i64 0) ∧ ∃ y : BelW T, w' = y.w from by
                have h := bel_of (x := z) (width_any a a (by omega) (by omega) (by omega) (by omega) z.w)
                rwa [show Xa.sub a a = 0 by unfold Xa.sub; rw [if_neg (by omega), if_neg (by omega)]; omega] at h))
              have CA := Lib.hid (fun z : BelW T => (show Calls Try.prog 23 #[.agg #[.int .i64 a, .int .i64 a], .agg #[.int .i64 b, .int .i64 b]] z.w fun e w' => e = .returned (.agg #[.int .i64 (a + b), .int .i64 (a + b)]) ∧ ∃ y : BelW T, w' = y.w from by
                have h := bel_of (x := z) (sadd_any a a b b (by omega) (by omega) (by omega) (by omega) (by omega) (by omega) (by omega) (by omega) z.w)
                rwa [show Xa.add a b = a + b by unfold Xa.add; rw [if_neg (by omega), if_neg (by omega)]] at h))
              clear e1 e2 e3 e4 e5 e6 e11 ha hb hab hr hrn hRA hrc a1 a2 b1 b2
              by_cases hz : rn = 0
              · have v1 : ((rn : Int) == 0) = true := beq_iff_eq.2 (by omega)
                have ha0 := hempty hz
                subst ha0
                clear hempty hz
                go_upto_region 32 with fail
                refine wp_region_belx (by kernel_rfl) (by kernel_rfl) ?_
                repeat (go_big_quiet_step ((first | (go_at_call 26; with_reducible exact CW.out _) | (go_at_call 23; with_reducible exact CA.out _))))
                refine wpQuiet_nil ?_
                intro y2
                clear g1 g2 g3 g4 g5 g6 g7 g8
                go_wp2_with fail
                go_roundw
                case rel => exact ⟨k + 1, by omega, by go_num, y2, rfl⟩
                case measure => simp [intOf]; omega
              · have v1 : ((rn : Int) == 0) = false := beq_eq_false_iff_ne.2 (by omega)
                clear hempty hz
                go_upto_region 32 with fail
                refine wp_region_belx (by kernel_rfl) (by kernel_rfl) ?_
                repeat (go_big_quiet_step ((first | (go_at_call 26; with_reducible exact CW.out _) | (go_at_call 23; with_reducible exact CA.out _))))
                refine wpQuiet_nil ?_
                intro y2
                clear g1 g2 g3 g4 g5 g6 g7 g8
                go_wp2_with fail
                go_roundw
                case rel => exact ⟨k + 1, by omega, by go_num, y2, rfl⟩
                case measure => simp [intOf]; omega
            · have i6 : decide ((k : Int) < (ps.length : Int)) = false := decide_eq_false (by omega)
              have HXX := Lib.hid (below_next HBPw.out (below_next HBT.out y.2))
              go_wp2_with fail
              go_ret
              exact ⟨rfl, HXX.out⟩

end Go.Proofs.Ytafnmaojpheppaa
