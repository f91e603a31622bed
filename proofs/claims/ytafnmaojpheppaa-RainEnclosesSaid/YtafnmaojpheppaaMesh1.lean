/- rain.Mesh$1: the litres on a place by one end of the cells' spans. -/
import Derived.Test.YtafnmaojpheppaaRainP
namespace Go.Proofs.Ytafnmaojpheppaa
open Go.RowKit
set_option linter.unusedVariables false
set_option linter.unusedSimpArgs false

def M1R (V : World) (f : Sp → Int) (cs rain : List Sp) (s5 s11 : Value) (wr : World) : Prop := ∃ k : Nat, k ≤ rain.length ∧ s11 = .int .i64 (k : Int) ∧ s5 = .int .i64 (meshS f cs (rain.take k)) ∧ ∃ y : BelW V, wr = y.w
theorem meshS_out {f : Sp → Int} {cs rain : List Sp} {k : Nat} (hk : k < rain.length) (h : ¬ (0 ≤ (gs rain k).1 ∧ (gs rain k).1 < (cs.length : Int))) : meshS f cs (rain.take (k + 1)) = meshS f cs (rain.take k) := by
  rw [meshS_take f cs hk]
  unfold meshStep
  rw [if_neg h]
theorem meshS_in {f : Sp → Int} {cs rain : List Sp} {k j : Nat} (hk : k < rain.length) (h : (gs rain k).1 = (j : Int)) (hj : j < cs.length) : meshS f cs (rain.take (k + 1)) = Xa.add (meshS f cs (rain.take k)) (litF (f (gs cs j)) (gs rain k).2) := by
  rw [meshS_take f cs hk]
  unfold meshStep
  rw [if_pos ⟨by omega, by omega⟩, h, Int.toNat_natCast]

set_option maxHeartbeats 16000000 in
set_option maxRecDepth 100000 in
theorem sumlo_any (A C : Option Addr) (c cc : Nat) (rain cs : List Sp) (hrn : rain.length ≤ 9223372036854775807) (hcn : cs.length ≤ 9223372036854775807) (Bp Bc : Nat) (w : World) (hp : w.cell? ⟨Bp, 11, none⟩ = some (.slice A rain.length c)) (hb : w.cell? ⟨Bc, 0, none⟩ = some (.slice C cs.length cc)) (hr : Rd w A (spCells rain)) (hs : Rd w C (spCells cs)) :
    Calls Try.prog 30 #[.func (.func 32) #[] #[], .pointer (some ⟨Bp, 0, none⟩), .pointer (some ⟨Bc, 0, none⟩)] w fun e w' => e = .returned (.int .i64 (meshF Prod.fst cs rain)) ∧ Below w.heap.size w w' := by
  have HR := Lib.hid hr
  have HS := Lib.hid hs
  have HC := Lib.hid hb
  clear hr hs hb
  go_enter Try.func30, Try.ntmps30
  go_wp2_with fail
  go_loopw [5, 11] (fun s5 s11 wr => M1R w Prod.fst cs rain s5 s11 wr) (fun _ i _ => rain.length - (intOf i).toNat)
  case atStart => exact ⟨0, by omega, rfl, rfl, ⟨w, Below.refl _ _⟩, rfl⟩
  case round =>
    obtain ⟨k, hk, rfl, rfl, y, rfl⟩ := hrel
    by_cases hlt : k < rain.length
    · have i4 : decide ((k : Int) < (rain.length : Int)) = true := decide_eq_true (by omega)
      have j1 : (0 : Int) ≤ (k : Int) := by omega
      have j2 : (k : Int) < (rain.length : Int) := by omega
      obtain ⟨ad, b, o, rfl, hbs, hE, e1, e2⟩ := (HR.out.bel y).span hlt
      have HOut := Lib.hid (meshS_out (f := Prod.fst) (cs := cs) hlt)
      have HIn := Lib.hid (fun j => meshS_in (f := Prod.fst) (cs := cs) (j := j) hlt)
      have hub := meshS_fit Prod.fst cs (rain.take k)
      have cB := BelW.cells HC.out y
      obtain ⟨S, hS⟩ : ∃ S, meshS Prod.fst cs (rain.take k) = S := ⟨_, rfl⟩
      rw [hS] at HOut HIn hub
      rw [hS]
      obtain ⟨ix, hix⟩ : ∃ x, (gs rain k).1 = x := ⟨_, rfl⟩
      obtain ⟨ar, har⟩ : ∃ x, (gs rain k).2 = x := ⟨_, rfl⟩
      rw [hix] at e1 HOut HIn
      rw [har] at e2 HIn
      have HUB := Lib.hid hub
      clear hS hix har hbs hub
      go_upto_region 5 with fail
      refine wp_rebase _ (fun V1 hV1 x1 => ?_)
      have hb1 : Below y.w.heap.size y.w V1 := by rw [hV1]; exact bel_alloc (Below.refl _ _) _
      have c0 : ∀ z : BelW V1, z.w.cell? ⟨y.w.heap.size, 0, none⟩ = some (.int .i64 ix) := fun z => BelW.cells (by rw [hV1, World.cell?_alloc_at _ _ _ _ rfl]; rfl) z
      have c1 : ∀ z : BelW V1, z.w.cell? ⟨y.w.heap.size, 1, none⟩ = some (.int .i64 ar) := fun z => BelW.cells (by rw [hV1, World.cell?_alloc_at _ _ _ _ rfl]; rfl) z
      have c2 : ∀ z : BelW V1, z.w.cell? ⟨Bc, 0, none⟩ = some (.slice C cs.length cc) := fun z => BelW.cells ((hb1.cell (World.block_lt_of_cell? _ _ cB)).trans cB) z
      have HB1 := Lib.hid hb1
      clear hV1 hb1 e1 e2 hE cB
      have HNO := Lib.hid (show ¬ (0 ≤ ix ∧ ix < (cs.length : Int)) → ∀ z : BelW V1, M1R w Prod.fst cs rain (.int .i64 S) (.int .i64 ((k : Int) + 1)) z.w from fun hno z => ⟨k + 1, by omega, by go_num, by rw [HOut.out hno], ⟨z.w, below_next (below_next y.2 HB1.out) z.2⟩, rfl⟩)
      by_cases d1 : 0 ≤ ix
      case neg =>
        have t1 : decide (0 ≤ ix) = false := decide_eq_false d1
        have HX := Lib.hid (HNO.out (fun h => d1 h.1))
        clear d1 HNO
        go_wp2_with fail
        go_roundw
        case rel => exact HX.out _
        case measure => simp [intOf]; omega
      have t1 : decide (0 ≤ ix) = true := decide_eq_true d1
      obtain ⟨j, rfl⟩ := Int.eq_ofNat_of_zero_le d1
      by_cases d2 : j < cs.length
      case neg =>
        have t2 : decide ((j : Int) < (cs.length : Int)) = false := decide_eq_false (by omega)
        have HX := Lib.hid (HNO.out (fun h => d2 (by omega)))
        clear d1 HNO
        go_wp2_with fail
        go_roundw
        case rel => exact HX.out _
        case measure => simp [intOf]; omega
      have t2 : decide ((j : Int) < (cs.length : Int)) = true := decide_eq_true (by omega)
      have q1 : (0 : Int) ≤ (j : Int) := by omega
      have q2 : (j : Int) < (cs.length : Int) := by omega
      obtain ⟨cd, b2, o2, rfl, hb2, hE2, f1, f2⟩ := ((HS.out.bel y).below (Nat.le_refl _) HB1.out).span d2
      have g1 := fun z : BelW V1 => BelW.cells f1 z
      have g2 := fun z : BelW V1 => BelW.cells f2 z
      have HY := Lib.hid (HIn.out j rfl d2)
      obtain ⟨lo, hlo⟩ : ∃ x, (gs cs j).1 = x := ⟨_, rfl⟩
      obtain ⟨hi, hhi⟩ : ∃ x, (gs cs j).2 = x := ⟨_, rfl⟩
      have hgs : gs cs j = (lo, hi) := by rw [← hlo, ← hhi]
      rw [hgs] at HY
      have HY1 := Lib.hid (show meshS Prod.fst cs (rain.take (k + 1)) = Xa.add S (litF lo ar) from HY.out)
      rw [hlo] at g1
      rw [hhi] at g2
      have hlb := litF_bd lo ar
      have CE := Lib.hid (fun z : BelW V1 => bel_of (end2_any lo hi z.w))
      have CL := Lib.hid (fun z : BelW V1 => bel_of ((lit_any lo ar z.w).mono fun e w' h => ⟨h.1, by obtain ⟨n, hn⟩ := h.2; rw [hn]; exact below_of_drewN _ n⟩))
      have CA := Lib.hid (fun z : BelW V1 => bel_of_same (add_any S (litF lo ar) HUB.out.1 HUB.out.2 (by omega) (by omega) z.w))
      obtain ⟨T, hT⟩ : ∃ T, litF lo ar = T := ⟨_, rfl⟩
      rw [hT] at HY1 CL CA
      clear f1 f2 hlo hhi hgs HY HNO HOut HIn hT hlb d1 hb2
      go_upto_region 6 with fail
      refine wp_region_belx (by kernel_rfl) (by kernel_rfl) ?_
      repeat (go_big_quiet_step ((first | (go_at_call 32; with_reducible exact CE.out _) | (go_at_call 31; with_reducible exact CL.out _) | (go_at_call 18; with_reducible exact CA.out _))))
      refine wpQuiet_nil ?_
      intro y3
      have HB3 := Lib.hid (below_next (below_next y.2 HB1.out) y3.2)
      clear c0 c1 c2 g1 g2
      go_wp2_with fail
      go_roundw
      case rel => exact ⟨k + 1, by omega, by go_num, by rw [HY1.out], ⟨y3.w, HB3.out⟩, rfl⟩
      case measure => simp [intOf]; omega
    · have i4 : decide ((k : Int) < (rain.length : Int)) = false := decide_eq_false (by omega)
      obtain rfl : k = rain.length := by omega
      have HX := Lib.hid y.2
      rw [List.take_length]
      go_wp2_with fail
      go_ret
      exact ⟨rfl, HX.out⟩

set_option maxHeartbeats 16000000 in
set_option maxRecDepth 100000 in
theorem sumhi_any (A C : Option Addr) (c cc : Nat) (rain cs : List Sp) (hrn : rain.length ≤ 9223372036854775807) (hcn : cs.length ≤ 9223372036854775807) (Bp Bc : Nat) (w : World) (hp : w.cell? ⟨Bp, 11, none⟩ = some (.slice A rain.length c)) (hb : w.cell? ⟨Bc, 0, none⟩ = some (.slice C cs.length cc)) (hr : Rd w A (spCells rain)) (hs : Rd w C (spCells cs)) :
    Calls Try.prog 30 #[.func (.func 33) #[] #[], .pointer (some ⟨Bp, 0, none⟩), .pointer (some ⟨Bc, 0, none⟩)] w fun e w' => e = .returned (.int .i64 (meshF Prod.snd cs rain)) ∧ Below w.heap.size w w' := by
  have HR := Lib.hid hr
  have HS := Lib.hid hs
  have HC := Lib.hid hb
  clear hr hs hb
  go_enter Try.func30, Try.ntmps30
  go_wp2_with fail
  go_loopw [5, 11] (fun s5 s11 wr => M1R w Prod.snd cs rain s5 s11 wr) (fun _ i _ => rain.length - (intOf i).toNat)
  case atStart => exact ⟨0, by omega, rfl, rfl, ⟨w, Below.refl _ _⟩, rfl⟩
  case round =>
    obtain ⟨k, hk, rfl, rfl, y, rfl⟩ := hrel
    by_cases hlt : k < rain.length
    · have i4 : decide ((k : Int) < (rain.length : Int)) = true := decide_eq_true (by omega)
      have j1 : (0 : Int) ≤ (k : Int) := by omega
      have j2 : (k : Int) < (rain.length : Int) := by omega
      obtain ⟨ad, b, o, rfl, hbs, hE, e1, e2⟩ := (HR.out.bel y).span hlt
      have HOut := Lib.hid (meshS_out (f := Prod.snd) (cs := cs) hlt)
      have HIn := Lib.hid (fun j => meshS_in (f := Prod.snd) (cs := cs) (j := j) hlt)
      have hub := meshS_fit Prod.snd cs (rain.take k)
      have cB := BelW.cells HC.out y
      obtain ⟨S, hS⟩ : ∃ S, meshS Prod.snd cs (rain.take k) = S := ⟨_, rfl⟩
      rw [hS] at HOut HIn hub
      rw [hS]
      obtain ⟨ix, hix⟩ : ∃ x, (gs rain k).1 = x := ⟨_, rfl⟩
      obtain ⟨ar, har⟩ : ∃ x, (gs rain k).2 = x := ⟨_, rfl⟩
      rw [hix] at e1 HOut HIn
      rw [har] at e2 HIn
      have HUB := Lib.hid hub
      clear hS hix har hbs hub
      go_upto_region 5 with fail
      refine wp_rebase _ (fun V1 hV1 x1 => ?_)
      have hb1 : Below y.w.heap.size y.w V1 := by rw [hV1]; exact bel_alloc (Below.refl _ _) _
      have c0 : ∀ z : BelW V1, z.w.cell? ⟨y.w.heap.size, 0, none⟩ = some (.int .i64 ix) := fun z => BelW.cells (by rw [hV1, World.cell?_alloc_at _ _ _ _ rfl]; rfl) z
      have c1 : ∀ z : BelW V1, z.w.cell? ⟨y.w.heap.size, 1, none⟩ = some (.int .i64 ar) := fun z => BelW.cells (by rw [hV1, World.cell?_alloc_at _ _ _ _ rfl]; rfl) z
      have c2 : ∀ z : BelW V1, z.w.cell? ⟨Bc, 0, none⟩ = some (.slice C cs.length cc) := fun z => BelW.cells ((hb1.cell (World.block_lt_of_cell? _ _ cB)).trans cB) z
      have HB1 := Lib.hid hb1
      clear hV1 hb1 e1 e2 hE cB
      have HNO := Lib.hid (show ¬ (0 ≤ ix ∧ ix < (cs.length : Int)) → ∀ z : BelW V1, M1R w Prod.snd cs rain (.int .i64 S) (.int .i64 ((k : Int) + 1)) z.w from fun hno z => ⟨k + 1, by omega, by go_num, by rw [HOut.out hno], ⟨z.w, below_next (below_next y.2 HB1.out) z.2⟩, rfl⟩)
      by_cases d1 : 0 ≤ ix
      case neg =>
        have t1 : decide (0 ≤ ix) = false := decide_eq_false d1
        have HX := Lib.hid (HNO.out (fun h => d1 h.1))
        clear d1 HNO
        go_wp2_with fail
        go_roundw
        case rel => exact HX.out _
        case measure => simp [intOf]; omega
      have t1 : decide (0 ≤ ix) = true := decide_eq_true d1
      obtain ⟨j, rfl⟩ := Int.eq_ofNat_of_zero_le d1
      by_cases d2 : j < cs.length
      case neg =>
        have t2 : decide ((j : Int) < (cs.length : Int)) = false := decide_eq_false (by omega)
        have HX := Lib.hid (HNO.out (fun h => d2 (by omega)))
        clear d1 HNO
        go_wp2_with fail
        go_roundw
        case rel => exact HX.out _
        case measure => simp [intOf]; omega
      have t2 : decide ((j : Int) < (cs.length : Int)) = true := decide_eq_true (by omega)
      have q1 : (0 : Int) ≤ (j : Int) := by omega
      have q2 : (j : Int) < (cs.length : Int) := by omega
      obtain ⟨cd, b2, o2, rfl, hb2, hE2, f1, f2⟩ := ((HS.out.bel y).below (Nat.le_refl _) HB1.out).span d2
      have g1 := fun z : BelW V1 => BelW.cells f1 z
      have g2 := fun z : BelW V1 => BelW.cells f2 z
      have HY := Lib.hid (HIn.out j rfl d2)
      obtain ⟨lo, hlo⟩ : ∃ x, (gs cs j).1 = x := ⟨_, rfl⟩
      obtain ⟨hi, hhi⟩ : ∃ x, (gs cs j).2 = x := ⟨_, rfl⟩
      have hgs : gs cs j = (lo, hi) := by rw [← hlo, ← hhi]
      rw [hgs] at HY
      have HY1 := Lib.hid (show meshS Prod.snd cs (rain.take (k + 1)) = Xa.add S (litF hi ar) from HY.out)
      rw [hlo] at g1
      rw [hhi] at g2
      have hlb := litF_bd hi ar
      have CE := Lib.hid (fun z : BelW V1 => bel_of (end3_any lo hi z.w))
      have CL := Lib.hid (fun z : BelW V1 => bel_of ((lit_any hi ar z.w).mono fun e w' h => ⟨h.1, by obtain ⟨n, hn⟩ := h.2; rw [hn]; exact below_of_drewN _ n⟩))
      have CA := Lib.hid (fun z : BelW V1 => bel_of_same (add_any S (litF hi ar) HUB.out.1 HUB.out.2 (by omega) (by omega) z.w))
      obtain ⟨T, hT⟩ : ∃ T, litF hi ar = T := ⟨_, rfl⟩
      rw [hT] at HY1 CL CA
      clear f1 f2 hlo hhi hgs HY HNO HOut HIn hT hlb d1 hb2
      go_upto_region 6 with fail
      refine wp_region_belx (by kernel_rfl) (by kernel_rfl) ?_
      repeat (go_big_quiet_step ((first | (go_at_call 33; with_reducible exact CE.out _) | (go_at_call 31; with_reducible exact CL.out _) | (go_at_call 18; with_reducible exact CA.out _))))
      refine wpQuiet_nil ?_
      intro y3
      have HB3 := Lib.hid (below_next (below_next y.2 HB1.out) y3.2)
      clear c0 c1 c2 g1 g2
      go_wp2_with fail
      go_roundw
      case rel => exact ⟨k + 1, by omega, by go_num, by rw [HY1.out], ⟨y3.w, HB3.out⟩, rfl⟩
      case measure => simp [intOf]; omega
    · have i4 : decide ((k : Int) < (rain.length : Int)) = false := decide_eq_false (by omega)
      obtain rfl : k = rain.length := by omega
      have HX := Lib.hid y.2
      rw [List.take_length]
      go_wp2_with fail
      go_ret
      exact ⟨rfl, HX.out⟩

end Go.Proofs.Ytafnmaojpheppaa
