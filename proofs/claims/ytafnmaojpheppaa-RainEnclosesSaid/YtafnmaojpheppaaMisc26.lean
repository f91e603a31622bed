/- bourneref09.SameAll, few, falls. -/
import Derived.Test.YtafnmaojpheppaaRMesh
import Derived.Test.YtafnmaojpheppaaCells26
namespace Go.Proofs.Ytafnmaojpheppaa
open Go.RowKit
set_option linter.unusedVariables false
set_option linter.unusedSimpArgs false

theorem same_take {l m : List Sp} {k : Nat} (hl : k < l.length) (hm : k < m.length) : (l.take (k + 1) = m.take (k + 1)) ↔ (l.take k = m.take k ∧ gs l k = gs m k) := by
  rw [List.take_succ_eq_append_getElem hl, List.take_succ_eq_append_getElem hm, gs_at hl, gs_at hm]
  constructor
  · intro h
    have h1 := List.append_inj h (by simp; omega)
    exact ⟨h1.1, by simpa using h1.2⟩
  · rintro ⟨h1, h2⟩
    rw [h1, h2]
def SaR (V : World) (l m : List Sp) (s5 : Value) (wr : World) : Prop := ∃ k : Nat, k ≤ l.length ∧ s5 = .int .i64 (k : Int) ∧ Hid (l.take k = m.take k) ∧ ∃ y : BelW V, wr = y.w

set_option maxHeartbeats 16000000 in
set_option maxRecDepth 100000 in
theorem sameall_any (A B : Option Addr) (ca cb : Nat) (l m : List Sp) (hln : l.length ≤ 9223372036854775807) (hmn : m.length ≤ 9223372036854775807) (w : World) (hl : Rd w A (spCells l)) (hm : Rd w B (spCells m)) :
    Calls Try.prog 10 #[.slice A l.length ca, .slice B m.length cb] w fun e w' => e = .returned (.bool (decide (l = m))) ∧ Below w.heap.size w w' := by
  obtain ⟨bb, hbb⟩ : ∃ b, decide (l = m) = b := ⟨_, rfl⟩
  rw [hbb]
  have HY := Lib.hid (fun h : l = m => (show bb = true by rw [← hbb]; exact decide_eq_true h))
  have HN := Lib.hid (fun h : ¬ l = m => (show bb = false by rw [← hbb]; exact decide_eq_false h))
  clear hbb
  have HL := Lib.hid hl
  have HM := Lib.hid hm
  clear hl hm
  by_cases he : l.length = m.length
  case neg =>
    have t0 : ((l.length : Int) != (m.length : Int)) = true := bne_iff_ne.2 (by omega)
    have HX := Lib.hid (HN.out (fun h => he (by rw [h])))
    clear he
    go_enter Try.func10, Try.ntmps10
    go_wp2_with fail
    go_ret
    exact ⟨(by rw [HX.out]; rfl), Below.refl _ _⟩
  have t0 : ((l.length : Int) != (m.length : Int)) = false := bne_eq_false_iff_eq.2 (by omega)
  have HE := Lib.hid he
  clear he
  have hgt := span_guardType
  have hst := span_stood
  go_enter Try.func10, Try.ntmps10
  go_wp2_with fail
  go_loopw [5] (fun s5 wr => SaR w l m s5 wr) (fun i _ => l.length - (intOf i).toNat)
  case atStart => exact ⟨0, by omega, rfl, Lib.hid (by simp), ⟨w, Below.refl _ _⟩, rfl⟩
  case round =>
    obtain ⟨k, hk, rfl, hsm, y, rfl⟩ := hrel
    by_cases hlt : k < l.length
    · have i5 : decide ((k : Int) < (l.length : Int)) = true := decide_eq_true (by omega)
      have m1 : (0 : Int) ≤ (k : Int) := by omega
      have m2 : (k : Int) < (l.length : Int) := by omega
      have hlm : k < m.length := by have := HE.out; omega
      have m3 : (k : Int) < (m.length : Int) := by omega
      obtain ⟨ad, b, o, rfl, hbs, hE, e1, e2⟩ := HL.out.span hlt
      obtain ⟨ad2, b2, o2, rfl, hbs2, hE2, f1, f2⟩ := HM.out.span hlm
      have g1 := fun z : BelW w => BelW.cells e1 z
      have g2 := fun z : BelW w => BelW.cells e2 z
      have g3 := fun z : BelW w => BelW.cells f1 z
      have g4 := fun z : BelW w => BelW.cells f2 z
      have hst2 := same_take hlt hlm
      obtain ⟨p, hp⟩ : ∃ p, gs l k = p := ⟨_, rfl⟩
      obtain ⟨q, hq⟩ : ∃ p, gs m k = p := ⟨_, rfl⟩
      rw [hp] at g1 g2 hst2
      rw [hq] at g3 g4 hst2
      obtain ⟨p0, p1⟩ := p
      obtain ⟨q0, q1⟩ := q
      have HSM := Lib.hid hsm.out
      have HST := Lib.hid hst2
      clear hp hq e1 e2 f1 f2 hbs hbs2 hst2 hsm
      have HNE := Lib.hid (show ¬ (p0, p1) = (q0, q1) → bb = false from fun h => HN.out (fun he => h ((HST.out.1 (by rw [he])).2)))
      by_cases h0 : p0 = q0
      · by_cases h1 : p1 = q1
        · subst h0 h1
          have HX := Lib.hid (HST.out.2 ⟨HSM.out, rfl⟩)
          clear HNE
          go_upto_region 6 with fail
          refine wp_region_belx (by kernel_rfl) (by kernel_rfl) ?_
          repeat (go_big_quiet_step (fail))
          refine wpQuiet_nil ?_
          intro y2
          go_wp2_with fail
          go_roundw
          case rel => exact ⟨k + 1, by omega, by go_num, Lib.hid HX.out, y2, rfl⟩
          case measure => simp [intOf]; omega
        · have HX := Lib.hid (HNE.out (fun h => h1 (by injection h)))
          clear HNE
          go_upto_region 6 with fail
          refine wp_region_belx (by kernel_rfl) (by kernel_rfl) ?_
          repeat (go_big_quiet_step (fail))
          refine wpQuiet_nil ?_
          intro y2
          have HBY := Lib.hid y2.2
          go_wp2_with fail
          go_ret
          exact ⟨(by rw [HX.out]; rfl), HBY.out⟩
      · have HX := Lib.hid (HNE.out (fun h => h0 (by injection h)))
        clear HNE
        go_upto_region 6 with fail
        refine wp_region_belx (by kernel_rfl) (by kernel_rfl) ?_
        repeat (go_big_quiet_step (fail))
        refine wpQuiet_nil ?_
        intro y2
        have HBY := Lib.hid y2.2
        go_wp2_with fail
        go_ret
        exact ⟨(by rw [HX.out]; rfl), HBY.out⟩
    · have i5 : decide ((k : Int) < (l.length : Int)) = false := decide_eq_false (by omega)
      obtain rfl : k = l.length := by omega
      have HX := Lib.hid (HY.out (by have := hsm.out; rw [List.take_length] at this; rw [this, List.take_of_length_le (by have := HE.out; omega)]))
      have HBY := Lib.hid y.2
      clear hsm
      go_wp2_with fail
      go_ret
      exact ⟨(by rw [HX.out]; rfl), HBY.out⟩

/-! few -/
def fewP (ps : List Pr) (nr nc : Nat) : Prop := ps.length ≤ 70 ∧ nr ≤ 60 ∧ nc ≤ 100 ∧ ∀ x ∈ ps, x.rain.length ≤ 70
instance (ps : List Pr) (nr nc : Nat) : Decidable (fewP ps nr nc) := by unfold fewP; exact inferInstance
def fewB (ps : List Pr) (nr nc : Nat) : Bool := decide (fewP ps nr nc)
theorem fewB_iff {ps : List Pr} {nr nc : Nat} : fewB ps nr nc = true ↔ fewP ps nr nc := by unfold fewB; exact decide_eq_true_iff
theorem fewB_no {ps : List Pr} {nr nc : Nat} (h : ¬ fewP ps nr nc) : fewB ps nr nc = false := by
  cases hb : fewB ps nr nc with
  | false => rfl
  | true => exact absurd (fewB_iff.1 hb) h
def FwR (V : World) (ps : List Pr) (s7 : Value) (wr : World) : Prop := ∃ k : Nat, k ≤ ps.length ∧ s7 = .int .i64 (k : Int) ∧ Hid (∀ i, i < k → (pr ps i).rain.length ≤ 70) ∧ ∃ y : BelW V, wr = y.w

set_option maxHeartbeats 16000000 in
set_option maxRecDepth 100000 in
theorem few_any (B SA CA : Option Addr) (cb sc cc nr nc : Nat) (ps : List Pr) (d0 d1 d2 d4 d5 d6 d7 d8 d9 d10 : Value) (hpn : ps.length ≤ 9223372036854775807) (w : World) (hp : Ps w B ps) :
    Calls Try.prog 9 #[.agg #[d0, d1, d2, .slice B ps.length cb, d4, d5, d6, d7, d8, d9, d10], .slice SA nr sc, .slice CA nc cc] w fun e w' => e = .returned (.bool (fewB ps nr nc)) ∧ Below w.heap.size w w' := by
  obtain ⟨bb, hbb⟩ : ∃ b, fewB ps nr nc = b := ⟨_, rfl⟩
  rw [hbb]
  have HY := Lib.hid (fun h : fewP ps nr nc => (show bb = true by rw [← hbb]; exact fewB_iff.2 h))
  have HN := Lib.hid (fun h : ¬ fewP ps nr nc => (show bb = false by rw [← hbb]; exact fewB_no h))
  have HP := Lib.hid hp
  clear hbb hp
  by_cases a1 : 70 < ps.length
  · have t1 : decide ((70 : Int) < (ps.length : Int)) = true := decide_eq_true (by omega)
    have HX := Lib.hid (HN.out (fun h => by have := h.1; omega))
    clear a1
    go_enter Try.func9, Try.ntmps9
    go_wp2_with fail
    go_ret
    exact ⟨(by rw [HX.out]; rfl), by go_grown⟩
  have t1 : decide ((70 : Int) < (ps.length : Int)) = false := decide_eq_false (by omega)
  by_cases a2 : 60 < nr
  · have t2 : decide ((60 : Int) < (nr : Int)) = true := decide_eq_true (by omega)
    have HX := Lib.hid (HN.out (fun h => by have := h.2.1; omega))
    clear a1 a2
    go_enter Try.func9, Try.ntmps9
    go_wp2_with fail
    go_ret
    exact ⟨(by rw [HX.out]; rfl), by go_grown⟩
  have t2 : decide ((60 : Int) < (nr : Int)) = false := decide_eq_false (by omega)
  by_cases a3 : 100 < nc
  · have t3 : decide ((100 : Int) < (nc : Int)) = true := decide_eq_true (by omega)
    have HX := Lib.hid (HN.out (fun h => by have := h.2.2.1; omega))
    clear a1 a2 a3
    go_enter Try.func9, Try.ntmps9
    go_wp2_with fail
    go_ret
    exact ⟨(by rw [HX.out]; rfl), by go_grown⟩
  have t3 : decide ((100 : Int) < (nc : Int)) = false := decide_eq_false (by omega)
  have HA := Lib.hid (And.intro (show ps.length ≤ 70 by omega) (And.intro (show nr ≤ 60 by omega) (show nc ≤ 100 by omega)))
  go_enter Try.func9, Try.ntmps9
  go_upto_region 1 with fail
  refine wp_rebase _ (fun V hV x0 => ?_)
  have HB0 := Lib.hid (show Below w.heap.size w V by rw [hV]; exact bel_alloc (Below.refl _ _) _)
  have HCB := Lib.hid (show V.cell? ⟨w.heap.size, 3, none⟩ = some (.slice B ps.length cb) by rw [hV, World.cell?_alloc_at _ _ _ _ rfl]; rfl)
  have HP1 := Lib.hid (HP.out.below (Nat.le_refl _) HB0.out)
  have cb3 := BelW.cells HCB.out x0
  clear hV HP a1 a2 a3
  go_wp2_with fail
  clear cb3
  go_loopw [7] (fun s7 wr => FwR V ps s7 wr) (fun i _ => ps.length - (intOf i).toNat)
  case atStart => exact ⟨0, by omega, rfl, Lib.hid (fun i hi => absurd hi (Nat.not_lt_zero _)), x0, rfl⟩
  case round =>
    obtain ⟨k, hk, rfl, hsm, y, rfl⟩ := hrel
    have cb3 := BelW.cells HCB.out y
    have HBY := Lib.hid (show Below w.heap.size w y.w from below_next HB0.out y.2)
    by_cases hlt : k < ps.length
    · have i4 : decide ((k : Int) < (ps.length : Int)) = true := decide_eq_true (by omega)
      have j1 : (0 : Int) ≤ (k : Int) := by omega
      have j2 : (k : Int) < (ps.length : Int) := by omega
      obtain ⟨ad, b, o, rfl, hbs, hE, hr, -⟩ := (HP1.out.bel y).at hlt
      have e11 : y.w.cell? ⟨b, o + 11, none⟩ = some (.slice (pr ps k).A (pr ps k).rain.length (pr ps k).c) := hr 11 _ rfl
      have HMEM := Lib.hid (show pr ps k ∈ ps by rw [pr_at hlt]; exact List.getElem_mem hlt)
      obtain ⟨P, hP⟩ : ∃ P, pr ps k = P := ⟨_, rfl⟩
      have HPP := Lib.hid hP
      rw [hP] at e11 HMEM
      obtain ⟨n, hn⟩ : ∃ n, P.rain.length = n := ⟨_, rfl⟩
      rw [hn] at e11
      have HNN := Lib.hid hn
      clear hr hbs hP hn
      by_cases a4 : 70 < n
      · have t4 : decide ((70 : Int) < (n : Int)) = true := decide_eq_true (by omega)
        have HX := Lib.hid (HN.out (fun h => by have h2 := h.2.2.2 _ HMEM.out; rw [HNN.out] at h2; omega))
        clear a4
        go_wp2_with fail
        go_ret
        exact ⟨(by rw [HX.out]; rfl), HBY.out⟩
      · have t4 : decide ((70 : Int) < (n : Int)) = false := decide_eq_false (by omega)
        have HX := Lib.hid (show ∀ i, i < k + 1 → (pr ps i).rain.length ≤ 70 from fun i hi => by
          by_cases e : i = k
          · subst e; rw [HPP.out, HNN.out]; omega
          · exact hsm.out i (by omega))
        clear a4 hsm
        go_wp2_with fail
        go_roundw
        case rel => exact ⟨k + 1, by omega, by go_num, HX, y, rfl⟩
        case measure => simp [intOf]; omega
    · have i4 : decide ((k : Int) < (ps.length : Int)) = false := decide_eq_false (by omega)
      obtain rfl : k = ps.length := by omega
      have HX := Lib.hid (HY.out ⟨HA.out.1, HA.out.2.1, HA.out.2.2, fun x hx => by
        obtain ⟨i, hi, rfl⟩ := List.getElem_of_mem hx
        have := hsm.out i hi
        rwa [pr_at hi] at this⟩)
      clear hsm
      go_wp2_with fail
      go_ret
      exact ⟨(by rw [HX.out]; rfl), HBY.out⟩

/-! falls -/
def exs (mm : List Int) : List Sp := mm.map fun v => (v, v)
theorem exs_length (mm : List Int) : (exs mm).length = mm.length := by simp [exs]
theorem exs_at {mm : List Int} {j : Nat} (h : j < mm.length) : gs (exs mm) j = (gi mm j, gi mm j) := by simp [gs, gi, exs, List.getD, h]
def FaR (V : World) (mm : List Int) (rain : List Sp) (s5 s6 : Value) (wr : World) : Prop := ∃ k : Nat, k ≤ rain.length ∧ s6 = .int .i64 (k : Int) ∧ s5 = .int .i64 (meshS Prod.fst (exs mm) (rain.take k)) ∧ ∃ y : BelW V, wr = y.w

set_option maxHeartbeats 16000000 in
set_option maxRecDepth 100000 in
theorem falls_any (A M : Option Addr) (c mc : Nat) (rain : List Sp) (mm : List Int) (v0 v1 v2 v3 v4 v5 v6 v7 v8 v9 v10 : Value) (hrn : rain.length ≤ 9223372036854775807) (hmn : mm.length ≤ 9223372036854775807) (w : World) (hr : Rd w A (spCells rain)) (hm : Rd w M (ints mm)) :
    Calls Try.prog 21 #[.agg #[v0, v1, v2, v3, v4, v5, v6, v7, v8, v9, v10, .slice A rain.length c], .slice M mm.length mc] w fun e w' => e = .returned (.int .i64 (meshF Prod.fst (exs mm) rain)) ∧ Below w.heap.size w w' := by
  go_enter Try.func21, Try.ntmps21
  go_upto_region 1 with fail
  refine wp_rebase _ (fun V hV x0 => ?_)
  have HB0 := Lib.hid (show Below w.heap.size w V by rw [hV]; exact bel_alloc (Below.refl _ _) _)
  have HC := Lib.hid (show V.cell? ⟨w.heap.size, 11, none⟩ = some (.slice A rain.length c) by rw [hV, World.cell?_alloc_at _ _ _ _ rfl]; rfl)
  have HR := Lib.hid (hr.below (Nat.le_refl _) HB0.out)
  have HM := Lib.hid (hm.below (Nat.le_refl _) HB0.out)
  clear hV hr hm
  go_wp2_with fail
  go_loopw [5, 6] (fun s5 s6 wr => FaR V mm rain s5 s6 wr) (fun _ i _ => rain.length - (intOf i).toNat)
  case atStart => exact ⟨0, by omega, rfl, rfl, x0, rfl⟩
  case round =>
    obtain ⟨k, hk, rfl, rfl, y, rfl⟩ := hrel
    have cb := fun z : BelW V => BelW.cells HC.out z
    by_cases hlt : k < rain.length
    · have i4 : decide ((k : Int) < (rain.length : Int)) = true := decide_eq_true (by omega)
      have j1 : (0 : Int) ≤ (k : Int) := by omega
      have j2 : (k : Int) < (rain.length : Int) := by omega
      obtain ⟨ad, b, o, rfl, hbs, hE, e1, e2⟩ := HR.out.span hlt
      have g1 := fun q : BelW V => BelW.cells e1 q
      have g2 := fun q : BelW V => BelW.cells e2 q
      have HOut := Lib.hid (meshS_out (f := Prod.fst) (cs := exs mm) hlt)
      have HIn := Lib.hid (fun j => meshS_in (f := Prod.fst) (cs := exs mm) (j := j) hlt)
      have HUB := Lib.hid (meshS_fit Prod.fst (exs mm) (rain.take k))
      obtain ⟨S, hS⟩ : ∃ S, meshS Prod.fst (exs mm) (rain.take k) = S := ⟨_, rfl⟩
      rw [hS] at HOut HIn HUB
      rw [hS]
      rw [exs_length] at HOut HIn
      obtain ⟨ix, hix⟩ : ∃ x, (gs rain k).1 = x := ⟨_, rfl⟩
      obtain ⟨ar, har⟩ : ∃ x, (gs rain k).2 = x := ⟨_, rfl⟩
      rw [hix] at g1 HOut HIn
      rw [har] at g2 HIn
      clear hS hix har hbs e1 e2
      have HNO := Lib.hid (show ¬ (0 ≤ ix ∧ ix < (mm.length : Int)) → FaR V mm rain (.int .i64 S) (.int .i64 ((k : Int) + 1)) y.w from fun hno => ⟨k + 1, by omega, by go_num, by rw [HOut.out hno], y, rfl⟩)
      by_cases d1 : 0 ≤ ix
      case neg =>
        have t1 : decide (0 ≤ ix) = false := decide_eq_false d1
        have HX := Lib.hid (HNO.out (fun h => d1 h.1))
        clear d1 HNO
        go_wp2_with fail
        go_roundw
        case rel => exact HX.out
        case measure => simp [intOf]; omega
      have t1 : decide (0 ≤ ix) = true := decide_eq_true d1
      obtain ⟨j, rfl⟩ := Int.eq_ofNat_of_zero_le d1
      by_cases d2 : j < mm.length
      case neg =>
        have t2 : decide ((j : Int) < (mm.length : Int)) = false := decide_eq_false (by omega)
        have HX := Lib.hid (HNO.out (fun h => d2 (by omega)))
        clear d1 HNO
        go_wp2_with fail
        go_roundw
        case rel => exact HX.out
        case measure => simp [intOf]; omega
      have t2 : decide ((j : Int) < (mm.length : Int)) = true := decide_eq_true (by omega)
      have q1 : (0 : Int) ≤ (j : Int) := by omega
      have q2 : (j : Int) < (mm.length : Int) := by omega
      obtain ⟨md, rfl, f1⟩ := rd_row HM.out d2
      have k1 := fun q : BelW V => BelW.cells f1 q
      have HY := Lib.hid (show meshS Prod.fst (exs mm) (rain.take (k + 1)) = Xa.add S (litF (gi mm j) ar) from by rw [HIn.out j rfl d2, exs_at d2])
      obtain ⟨v, hv⟩ : ∃ v, gi mm j = v := ⟨_, rfl⟩
      rw [hv] at k1 HY
      have hlb := litF_bd v ar
      have CL := Lib.hid (fun q : BelW V => bel_of_same (reflit_any v ar q.w))
      have CA := Lib.hid (fun q : BelW V => bel_of_same (add_any S (litF v ar) HUB.out.1 HUB.out.2 (by omega) (by omega) q.w))
      obtain ⟨T, hT⟩ : ∃ T, litF v ar = T := ⟨_, rfl⟩
      rw [hT] at HY CL CA
      clear f1 hv HNO HOut HIn hT hlb d1 HUB
      go_upto_region 6 with fail
      refine wp_region_belx (by kernel_rfl) (by kernel_rfl) ?_
      repeat (go_big_quiet_step ((first | (go_at_call 35; with_reducible exact CL.out _) | (go_at_call 18; with_reducible exact CA.out _))))
      refine wpQuiet_nil ?_
      intro z1
      go_wp2_with fail
      go_roundw
      case rel => exact ⟨k + 1, by omega, by go_num, by rw [HY.out], z1, rfl⟩
      case measure => simp [intOf]; omega
    · have i4 : decide ((k : Int) < (rain.length : Int)) = false := decide_eq_false (by omega)
      obtain rfl : k = rain.length := by omega
      have HX := Lib.hid (show Below w.heap.size w y.w from below_next HB0.out y.2)
      rw [List.take_length]
      go_wp2_with fail
      go_ret
      exact ⟨rfl, HX.out⟩

end Go.Proofs.Ytafnmaojpheppaa
