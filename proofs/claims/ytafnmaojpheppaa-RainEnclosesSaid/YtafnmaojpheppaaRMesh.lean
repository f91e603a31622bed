/- bourneref26.Mesh. -/
import Derived.Test.YtafnmaojpheppaaMesh2
import Derived.Test.YtafnmaojpheppaaRefA
namespace Go.Proofs.Ytafnmaojpheppaa
open Go.RowKit
set_option linter.unusedVariables false
set_option linter.unusedSimpArgs false

def M2R (U : World) (cs rain : List Sp) (s7 s8 s10 : Value) (wr : World) : Prop := ∃ k : Nat, k ≤ rain.length ∧ s10 = .int .i64 (k : Int) ∧ s7 = .int .i64 (meshS Prod.fst cs (rain.take k)) ∧ s8 = .int .i64 (meshS Prod.snd cs (rain.take k)) ∧ ∃ y : BelW U, wr = y.w

set_option maxHeartbeats 32000000 in
set_option maxRecDepth 100000 in
theorem refmesh_any (B C : Option Addr) (cb cc : Nat) (ps : List Pr) (cs : List Sp) (d0 d1 d2 d4 d5 d6 d7 d8 d9 d10 : Value) (hpn : ps.length ≤ 1000) (hrn : ∀ x ∈ ps, x.rain.length ≤ 1000) (hcn : cs.length ≤ 9223372036854775807) (w : World) (hp : Ps w B ps) (hs : Rd w C (spCells cs)) :
    Calls Try.prog 14 #[.agg #[d0, d1, d2, .slice B ps.length cb, d4, d5, d6, d7, d8, d9, d10], .slice C cs.length cc] w (SpPost (meshL cs ps) w) := by
  obtain ⟨i0, hi0, hz0, hz1, hz2⟩ := info_parts info_span
  have INF := Lib.hid (And.intro hi0 (And.intro hz0 (And.intro hz1 hz2)))
  clear hi0 hz0 hz1 hz2
  go_enter Try.func14, Try.ntmps14
  go_upto_region 1 with fail
  refine wp_rebase _ (fun V hV x0 => ?_)
  have HB0 := Lib.hid (show Below w.heap.size w V by rw [hV]; exact bel_alloc (Below.refl _ _) _)
  have HCB := Lib.hid (show V.cell? ⟨w.heap.size, 3, none⟩ = some (.slice B ps.length cb) by rw [hV, World.cell?_alloc_at _ _ _ _ rfl]; rfl)
  have HP := Lib.hid (hp.below (Nat.le_refl _) HB0.out)
  have HS := Lib.hid (hs.below (Nat.le_refl _) HB0.out)
  have HL := Lib.hid hrn
  clear hV hp hs hrn
  go_wp2_with fail
  go_loopw [5, 6] (fun s5 s6 wr => MsR V cs ps s5 s6 wr) (fun _ i _ => ps.length - (intOf i).toNat)
  case atStart => exact ⟨0, by omega, rfl, x0, rfl, World.ownsRow_nil _ _ _ _⟩
  case round =>
    obtain ⟨k, hk, rfl, y, rfl, hown⟩ := hrel
    have cb3 := BelW.cells HCB.out y
    by_cases hlt : k < ps.length
    · have i4 : decide ((k : Int) < (ps.length : Int)) = true := decide_eq_true (by omega)
      have j1 : (0 : Int) ≤ (k : Int) := by omega
      have j2 : (k : Int) < (ps.length : Int) := by omega
      obtain ⟨ad, b, o, rfl, hbs, hE, hr, hrr⟩ := (HP.out.bel y).at hlt
      have HT := Lib.hid (meshL_take (cs := cs) hlt)
      have HK := Lib.hid (show (pr ps k).rain.length ≤ 1000 from by rw [pr_at hlt]; exact HL.out _ (List.getElem_mem hlt))
      have e11 := hr 11 _ rfl
      obtain ⟨rain, hrain⟩ : ∃ x, (pr ps k).rain = x := ⟨_, rfl⟩
      obtain ⟨A, hA⟩ : ∃ x, (pr ps k).A = x := ⟨_, rfl⟩
      obtain ⟨c, hc⟩ : ∃ x, (pr ps k).c = x := ⟨_, rfl⟩
      rw [hrain, hA, hc] at e11
      rw [hrain, hA] at hrr
      rw [hrain] at HT HK
      have HRN := Lib.hid (show rain.length ≤ 9223372036854775807 from by have := HK.out; omega)
      have HTT := Lib.hid (show spCells (meshL cs (ps.take (k + 1))) = spCells (meshL cs (ps.take k)) ++ [.int .i64 (meshF Prod.fst cs rain), .int .i64 (meshF Prod.snd cs rain)] from HT.out)
      clear hr hrain hA hc HT HK hbs
      go_upto_region 8 with fail
      refine wp_rebase _ (fun U hU u0 => ?_)
      rw [← hU] at hown hrr
      have HBU := Lib.hid (show Below V.heap.size V U by rw [hU]; exact y.2)
      have HO := Lib.hid hown
      have HR := Lib.hid hrr
      have HSU := Lib.hid (HS.out.below (Nat.le_refl _) HBU.out)
      clear hU hown hrr e11 hE cb3
      go_wp2_with fail
      go_loopw [7, 8, 10] (fun s7 s8 s10 wr => M2R U cs rain s7 s8 s10 wr) (fun _ _ i _ => rain.length - (intOf i).toNat)
      case atStart => exact ⟨0, by omega, rfl, rfl, rfl, u0, rfl⟩
      case round =>
        obtain ⟨m, hm, rfl, rfl, rfl, z, rfl⟩ := hrel
        have HN0 := HRN.out
        by_cases hlm : m < rain.length
        · have i5 : decide ((m : Int) < (rain.length : Int)) = true := decide_eq_true (by omega)
          have m1 : (0 : Int) ≤ (m : Int) := by omega
          have m2 : (m : Int) < (rain.length : Int) := by omega
          obtain ⟨rd, rb, ro, rfl, hbs, hE, e1, e2⟩ := HR.out.span hlm
          have g1 := fun q : BelW U => BelW.cells e1 q
          have g2 := fun q : BelW U => BelW.cells e2 q
          have HOutL := Lib.hid (meshS_out (f := Prod.fst) (cs := cs) hlm)
          have HInL := Lib.hid (fun j => meshS_in (f := Prod.fst) (cs := cs) (j := j) hlm)
          have HOutH := Lib.hid (meshS_out (f := Prod.snd) (cs := cs) hlm)
          have HInH := Lib.hid (fun j => meshS_in (f := Prod.snd) (cs := cs) (j := j) hlm)
          have HubL := Lib.hid (meshS_fit Prod.fst cs (rain.take m))
          have HubH := Lib.hid (meshS_fit Prod.snd cs (rain.take m))
          obtain ⟨SL, hSL⟩ : ∃ S, meshS Prod.fst cs (rain.take m) = S := ⟨_, rfl⟩
          obtain ⟨SH, hSH⟩ : ∃ S, meshS Prod.snd cs (rain.take m) = S := ⟨_, rfl⟩
          rw [hSL] at HOutL HInL HubL
          rw [hSH] at HOutH HInH HubH
          rw [hSL, hSH]
          obtain ⟨ix, hix⟩ : ∃ x, (gs rain m).1 = x := ⟨_, rfl⟩
          obtain ⟨ar, har⟩ : ∃ x, (gs rain m).2 = x := ⟨_, rfl⟩
          rw [hix] at g1 HOutL HInL HOutH HInH
          rw [har] at g2 HInL HInH
          clear hSL hSH hix har hbs e1 e2
          have HNO := Lib.hid (show ¬ (0 ≤ ix ∧ ix < (cs.length : Int)) → M2R U cs rain (.int .i64 SL) (.int .i64 SH) (.int .i64 ((m : Int) + 1)) z.w from fun hno => ⟨m + 1, by omega, by go_num, by rw [HOutL.out hno], by rw [HOutH.out hno], z, rfl⟩)
          by_cases d1 : ix < 0
          · have t1 : decide (ix < 0) = true := decide_eq_true d1
            have HX := Lib.hid (HNO.out (fun h => by omega))
            clear d1 HNO
            go_wp2_with fail
            go_roundw
            case rel => exact HX.out
            case measure => simp [intOf]; omega
          have t1 : decide (ix < 0) = false := decide_eq_false d1
          obtain ⟨j, rfl⟩ := Int.eq_ofNat_of_zero_le (show 0 ≤ ix by omega)
          by_cases d2 : j < cs.length
          case neg =>
            have t2 : decide ((cs.length : Int) ≤ (j : Int)) = true := decide_eq_true (by omega)
            have HX := Lib.hid (HNO.out (fun h => d2 (by omega)))
            clear d1 HNO
            go_wp2_with fail
            go_roundw
            case rel => exact HX.out
            case measure => simp [intOf]; omega
          have t2 : decide ((cs.length : Int) ≤ (j : Int)) = false := decide_eq_false (by omega)
          have q1 : (0 : Int) ≤ (j : Int) := by omega
          have q2 : (j : Int) < (cs.length : Int) := by omega
          obtain ⟨cd, b2, o2, rfl, hb2, hE2, f1, f2⟩ := HSU.out.span d2
          have k1 := fun q : BelW U => BelW.cells f1 q
          have k2 := fun q : BelW U => BelW.cells f2 q
          obtain ⟨lo, hlo⟩ : ∃ x, (gs cs j).1 = x := ⟨_, rfl⟩
          obtain ⟨hi, hhi⟩ : ∃ x, (gs cs j).2 = x := ⟨_, rfl⟩
          have hgs : gs cs j = (lo, hi) := by rw [← hlo, ← hhi]
          have HYL := Lib.hid (show meshS Prod.fst cs (rain.take (m + 1)) = Xa.add SL (litF lo ar) from by rw [HInL.out j rfl d2, hgs])
          have HYH := Lib.hid (show meshS Prod.snd cs (rain.take (m + 1)) = Xa.add SH (litF hi ar) from by rw [HInH.out j rfl d2, hgs])
          rw [hlo] at k1
          rw [hhi] at k2
          have hlb1 := litF_bd lo ar
          have hlb2 := litF_bd hi ar
          have CL1 := Lib.hid (fun q : BelW U => bel_of_same (reflit_any lo ar q.w))
          have CL2 := Lib.hid (fun q : BelW U => bel_of_same (reflit_any hi ar q.w))
          have CA1 := Lib.hid (fun q : BelW U => bel_of_same (refadd_any SL (litF lo ar) HubL.out.1 HubL.out.2 (by omega) (by omega) q.w))
          have CA2 := Lib.hid (fun q : BelW U => bel_of_same (refadd_any SH (litF hi ar) HubH.out.1 HubH.out.2 (by omega) (by omega) q.w))
          obtain ⟨T1, hT1⟩ : ∃ T, litF lo ar = T := ⟨_, rfl⟩
          obtain ⟨T2, hT2⟩ : ∃ T, litF hi ar = T := ⟨_, rfl⟩
          rw [hT1] at HYL CL1 CA1
          rw [hT2] at HYH CL2 CA2
          clear f1 f2 hlo hhi hgs HNO HOutL HInL HOutH HInH hT1 hT2 hlb1 hlb2 d1 hb2 HubL HubH
          go_upto_region 12 with fail
          refine wp_region_belx (by kernel_rfl) (by kernel_rfl) ?_
          repeat (go_big_quiet_step ((first | (go_at_call 35; with_reducible exact CL1.out _) | (go_at_call 34; with_reducible exact CA1.out _))))
          refine wpQuiet_nil ?_
          intro z1
          go_upto_region 13 with fail
          refine wp_region_belx (by kernel_rfl) (by kernel_rfl) ?_
          repeat (go_big_quiet_step ((first | (go_at_call 35; with_reducible exact CL2.out _) | (go_at_call 34; with_reducible exact CA2.out _))))
          refine wpQuiet_nil ?_
          intro z2
          clear g1 g2 k1 k2 hE hE2
          go_wp2_with fail
          go_roundw
          case rel => exact ⟨m + 1, by omega, by go_num, by rw [HYL.out], by rw [HYH.out], z2, rfl⟩
          case measure => simp [intOf]; omega
        · have i5 : decide ((m : Int) < (rain.length : Int)) = false := decide_eq_false (by omega)
          obtain rfl : m = rain.length := by omega
          rw [List.take_length]
          have HMX := Lib.hid (show k + 1 ≤ maxLen ∧ (k + 1) * 16 ≤ 140737488355328 by unfold maxLen; constructor <;> omega)
          have HOZ := Lib.hid (own_below (u' := z.w) HO.out z.2)
          have HBZ := Lib.hid (show Below V.heap.size V z.w from below_next HBU.out z.2)
          have HTF := Lib.hid (show spCells (meshL cs (ps.take (k + 1))) = spCells (meshL cs (ps.take k)) ++ [.int .i64 (min (meshS Prod.fst cs rain) 1125899906842624), .int .i64 (min (meshS Prod.snd cs rain) 1125899906842624)] from HTT.out)
          obtain ⟨SL, hSL⟩ : ∃ S, meshS Prod.fst cs rain = S := ⟨_, rfl⟩
          obtain ⟨SH, hSH⟩ : ∃ S, meshS Prod.snd cs rain = S := ⟨_, rfl⟩
          rw [hSL, hSH] at HTF ⊢
          clear hSL hSH HTT
          go_wp2_with (first | (at_builtin; refine wpList_append_lies _ rfl _ _ _ (by rfl) V.heap.size 40 i0 _ 2 16 Try.underlying33 INF.out.1 INF.out.2.1 INF.out.2.2.1 INF.out.2.2.2 rfl (by omega) _ k (spCells (meshL cs (ps.take k))) (by rfl) (HOZ.out.alloc _) ⟨z.w.heap.size, 0, none⟩ 1 1 [.int .i64 (min SL 1125899906842624), .int .i64 (min SH 1125899906842624)] (by rfl) (by rfl) (World.news_of_block (heap_alloc_new _ _)) (by simp [Value.oneCell']) (by omega) HMX.out.1 HMX.out.2 (Nat.le_trans HBZ.out.size (by simp)) (z.w.heap.size + 1) (by simp) ?_))
          intro gg cap w1 hown1 hgrow hat hl1
          have hB1 : Below V.heap.size V w1 := own_grown (bel_alloc HBZ.out _) (HOZ.out.alloc _) hgrow
          have HN := Lib.hid hown1
          have HM := Lib.hid hB1
          clear hown1 hgrow hat hB1
          go_wp2_with fail
          go_roundw
          case rel => exact ⟨k + 1, by omega, by go_num, ⟨w1, HM.out⟩, rfl, by rw [HTF.out]; exact HN.out⟩
          case measure => simp [intOf]; omega
    · have i4 : decide ((k : Int) < (ps.length : Int)) = false := decide_eq_false (by omega)
      obtain rfl : k = ps.length := by omega
      rw [List.take_length] at hown
      have HX := Lib.hid (SpPost.of (meshL_length cs ps) hown HB0.out.size (below_next HB0.out y.2))
      clear hown
      go_wp2_with fail
      go_ret
      exact HX.out

end Go.Proofs.Ytafnmaojpheppaa
