/- rain.Mesh. -/
import Derived.Test.YtafnmaojpheppaaMesh1
namespace Go.Proofs.Ytafnmaojpheppaa
open Go.RowKit
set_option linter.unusedVariables false
set_option linter.unusedSimpArgs false

theorem own_base {w : World} {B B' : Nat} {e : TypeId} {size : Nat} {v : Value} {n : Nat} {xs : List Value} (h : w.ownsRow B e size v n xs) (hb : B' ≤ B) : w.ownsRow B' e size v n xs := by
  refine ⟨h.1, ?_⟩
  rcases h.2 with h0 | ⟨g, cap, cur, h1, h2, h3⟩
  · exact .inl h0
  · exact .inr ⟨g, cap, cur, h1, Nat.le_trans hb h2, h3⟩
theorem own_below {u u' : World} {base : Nat} {e : TypeId} {size : Nat} {v : Value} {n : Nat} {xs : List Value} (h : u.ownsRow base e size v n xs) (hb : Below u.heap.size u u') : u'.ownsRow base e size v n xs := own_bel h ⟨u', hb⟩
theorem own_slice {w : World} {base : Nat} {e : TypeId} {size : Nat} {v : Value} {n : Nat} {xs : List Value} (h : w.ownsRow base e size v n xs) : ∃ A c, v = .slice A n c ∧ (A = none → c = 0) ∧ Rd w A xs := by
  rcases Nat.eq_zero_or_pos n with h0 | h0
  · subst h0
    have hx : xs = [] := List.eq_nil_of_length_eq_zero (by have := h.1; simpa using this)
    subst hx
    rcases h.2 with ⟨rfl, _⟩ | ⟨g, cap, cur, rfl, _⟩
    · exact ⟨none, 0, rfl, fun _ => rfl, Rd.nil _ _⟩
    · exact ⟨_, _, rfl, (fun h => by cases h), Rd.nil _ _⟩
  · obtain ⟨g, cap, rfl, hr⟩ := own_rd h h0
    exact ⟨_, _, rfl, (fun h => by cases h), hr⟩
theorem info_span : (Try.prog.info? 40).map (fun i => (i.zero, i.size, i.bytes)) = some (some (.agg #[.int .i64 0, .int .i64 0]), 2, 16) := by kernel_rfl

/-- a row of spans that the call has made -/
def SpPost (l : List Sp) (w : World) (e : Ending) (w' : World) : Prop := ∃ A c, e = .returned (.slice A l.length c) ∧ (A = none → c = 0) ∧ w'.ownsRow w.heap.size 40 2 (.slice A l.length c) l.length (spCells l) ∧ Rd w' A (spCells l) ∧ Below w.heap.size w w'
theorem SpPost.of {l : List Sp} {w w' V : World} {v : Value} {n : Nat} (hn : l.length = n) (h : w'.ownsRow V.heap.size 40 2 v n (spCells l)) (hV : w.heap.size ≤ V.heap.size) (hb : Below w.heap.size w w') : SpPost l w (.returned v) w' := by
  subst hn
  obtain ⟨A, c, rfl, hA, hr⟩ := own_slice h
  exact ⟨A, c, rfl, hA, own_base h hV, hr, hb⟩

theorem meshL_take {cs : List Sp} {ps : List Pr} {k : Nat} (hk : k < ps.length) : spCells (meshL cs (ps.take (k + 1))) = spCells (meshL cs (ps.take k)) ++ spc (meshP cs (pr ps k).rain) := by
  rw [List.take_succ_eq_append_getElem hk, pr_at hk]
  unfold meshL
  rw [List.map_append, spCells_append]
  rfl
theorem meshL_length (cs : List Sp) (ps : List Pr) : (meshL cs ps).length = ps.length := by simp [meshL]
/-- each value of a place is one cell -/
def PrOne (x : Pr) : Prop := (prc x).all (·.oneCell') = true
def MsR (V : World) (cs : List Sp) (ps : List Pr) (s5 s12 : Value) (wr : World) : Prop := ∃ k : Nat, k ≤ ps.length ∧ s12 = .int .i64 (k : Int) ∧ ∃ y : BelW V, wr = y.w ∧ y.w.ownsRow V.heap.size 40 2 s5 k (spCells (meshL cs (ps.take k)))

set_option maxHeartbeats 16000000 in
set_option maxRecDepth 100000 in
theorem mesh_any (B C : Option Addr) (cb cc : Nat) (ps : List Pr) (cs : List Sp) (d0 d1 d2 d4 d5 d6 d7 d8 d9 d10 : Value) (hpn : ps.length ≤ 1000) (hrn : ∀ x ∈ ps, x.rain.length ≤ 1000) (hcn : cs.length ≤ 9223372036854775807) (hone : ∀ x ∈ ps, PrOne x) (w : World) (hp : Ps w B ps) (hs : Rd w C (spCells cs)) :
    Calls Try.prog 13 #[.agg #[d0, d1, d2, .slice B ps.length cb, d4, d5, d6, d7, d8, d9, d10], .slice C cs.length cc] w (SpPost (meshL cs ps) w) := by
  obtain ⟨i0, hi0, hz0, hz1, hz2⟩ := info_parts info_span
  have INF := Lib.hid (And.intro hi0 (And.intro hz0 (And.intro hz1 hz2)))
  clear hi0 hz0 hz1 hz2
  go_enter Try.func13, Try.ntmps13
  go_upto_region 1 with fail
  refine wp_rebase _ (fun V hV x0 => ?_)
  have HB0 := Lib.hid (show Below w.heap.size w V by rw [hV]; exact bel_alloc (bel_alloc (Below.refl _ _) _) _)
  have HCB := Lib.hid (show V.cell? ⟨w.heap.size, 3, none⟩ = some (.slice B ps.length cb) by rw [hV]; exact cell_alloc (by rw [World.cell?_alloc_at _ _ _ _ rfl]; rfl) _)
  have HCC := Lib.hid (show V.cell? ⟨w.heap.size + 1, 0, none⟩ = some (.slice C cs.length cc) by rw [hV, World.cell?_alloc_at _ _ _ _ (by rw [World.size_alloc])]; rfl)
  have HP := Lib.hid (hp.below (Nat.le_refl _) HB0.out)
  have HS := Lib.hid (hs.below (Nat.le_refl _) HB0.out)
  have HL := Lib.hid (And.intro hrn hone)
  have cb3 := BelW.cells HCB.out x0
  clear hV hp hs hrn hone
  go_wp2_with fail
  clear cb3
  go_loopw [5, 12] (fun s5 s12 wr => MsR V cs ps s5 s12 wr) (fun _ i _ => ps.length - (intOf i).toNat)
  case atStart => exact ⟨0, by omega, rfl, x0, rfl, World.ownsRow_nil _ _ _ _⟩
  case round =>
    obtain ⟨k, hk, rfl, y, rfl, hown⟩ := hrel
    by_cases hlt : k < ps.length
    · have i4 : decide ((k : Int) < (ps.length : Int)) = true := decide_eq_true (by omega)
      have j1 : (0 : Int) ≤ (k : Int) := by omega
      have j2 : (k : Int) < (ps.length : Int) := by omega
      obtain ⟨ad, b, o, rfl, hbs, hE, hr, hrr⟩ := (HP.out.bel y).at hlt
      have HT := Lib.hid (meshL_take (cs := cs) hlt)
      have HK := Lib.hid (show (pr ps k).rain.length ≤ 1000 ∧ PrOne (pr ps k) from by rw [pr_at hlt]; exact ⟨HL.out.1 _ (List.getElem_mem hlt), HL.out.2 _ (List.getElem_mem hlt)⟩)
      obtain ⟨P, hP⟩ : ∃ P, pr ps k = P := ⟨_, rfl⟩
      rw [hP] at hr hrr HT HK
      clear hP
      obtain ⟨v0, v1, v2, v3, v4, v5, v6, v7, v8, v9, v10, A, c, rain⟩ := P
      have HRG := Lib.hid (show y.w.rangeAt b o [v0, v1, v2, v3, v4, v5, v6, v7, v8, v9, v10, .slice A rain.length c] from hr)
      have HON := Lib.hid (show ([v0, v1, v2, v3, v4, v5, v6, v7, v8, v9, v10, .slice A rain.length c] : List Value).all (·.oneCell') = true from HK.out.2)
      have HRR := Lib.hid (show Rd y.w A (spCells rain) from hrr)
      have HRN := Lib.hid (show rain.length ≤ 9223372036854775807 from by have := HK.out.1; have h : rain.length ≤ 1000 := this; omega)
      have HTT := Lib.hid (show spCells (meshL cs (ps.take (k + 1))) = spCells (meshL cs (ps.take k)) ++ [.int .i64 (meshF Prod.fst cs rain), .int .i64 (meshF Prod.snd cs rain)] from HT.out)
      have HO := Lib.hid hown
      clear hr hrr HT HK hbs hown
      go_upto_region 5 with (first
        | (with_reducible refine wpList_load_g 53 _ (by with_reducible rfl) b o (by with_unfolding_all rfl) (by with_unfolding_all rfl) _ _ HRG.out Try.underlying53 (by with_unfolding_all rfl) (by kernel_rfl) ?_)
        | (with_reducible refine wpList_store_new (z := [.string ⟨#[]⟩, .int .i64 0, .int .i64 0, .int .i64 0, .slice none 0 0, .slice none 0 0, .int .i64 0, .int .i64 0, .int .i64 0, .int .i64 0, .int .i64 0, .slice none 0 0]) (cs := [v0, v1, v2, v3, v4, v5, v6, v7, v8, v9, v10, .slice A rain.length c]) 53 _ _ (by with_reducible rfl) (by with_unfolding_all rfl) y.w.heap.size (by with_reducible rfl) _ (by with_unfolding_all rfl) (by with_unfolding_all rfl) (by with_unfolding_all rfl) (by kernel_rfl) HON.out ?_))
      refine wp_rebase _ (fun V1 hV1 x1 => ?_)
      have hb1 : Below y.w.heap.size y.w V1 := by rw [hV1]; exact bel_alloc (Below.refl _ _) _
      have c11 : V1.cell? ⟨y.w.heap.size, 11, none⟩ = some (.slice A rain.length c) := by rw [hV1, World.cell?_alloc_at _ _ _ _ rfl]; rfl
      have HB1 := Lib.hid hb1
      have HCL := Lib.hid (fun z : BelW V1 => bel_of (sumlo_any A C c cc rain cs HRN.out hcn y.w.heap.size (w.heap.size + 1) z.w (BelW.cells c11 z) (BelW.cells ((hb1.cell (World.block_lt_of_cell? _ _ (BelW.cells HCC.out y))).trans (BelW.cells HCC.out y)) z) ((HRR.out.below (Nat.le_refl _) hb1).bel z) (((HS.out.bel y).below (Nat.le_refl _) hb1).bel z)))
      have HCH := Lib.hid (fun z : BelW V1 => bel_of (sumhi_any A C c cc rain cs HRN.out hcn y.w.heap.size (w.heap.size + 1) z.w (BelW.cells c11 z) (BelW.cells ((hb1.cell (World.block_lt_of_cell? _ _ (BelW.cells HCC.out y))).trans (BelW.cells HCC.out y)) z) ((HRR.out.below (Nat.le_refl _) hb1).bel z) (((HS.out.bel y).below (Nat.le_refl _) hb1).bel z)))
      obtain ⟨lo, hlo⟩ : ∃ x, meshF Prod.fst cs rain = x := ⟨_, rfl⟩
      obtain ⟨hi, hhi⟩ : ∃ x, meshF Prod.snd cs rain = x := ⟨_, rfl⟩
      rw [hlo] at HCL HTT
      rw [hhi] at HCH HTT
      clear hlo hhi hV1 hb1 c11 hE HRG HON HRR
      have HMX := Lib.hid (show k + 1 ≤ maxLen ∧ (k + 1) * 16 ≤ 140737488355328 by unfold maxLen; constructor <;> omega)
      have HOZ := Lib.hid (fun z : BelW V1 => own_below (u' := z.w) HO.out (below_next HB1.out z.2))
      have HBZ := Lib.hid (fun z : BelW V1 => (show Below V.heap.size V z.w from below_next y.2 (below_next HB1.out z.2)))
      go_wp2_with (first | (go_at_call 30; with_reducible refine (HCL.out _).mono ?_; rintro e w' ⟨rfl, z1, rfl⟩) | (go_at_call 30; with_reducible refine (HCH.out _).mono ?_; rintro e w' ⟨rfl, z2, rfl⟩) | (at_builtin; refine wpList_append_lies _ rfl _ _ _ (by rfl) V.heap.size 40 i0 _ 2 16 Try.underlying33 INF.out.1 INF.out.2.1 INF.out.2.2.1 INF.out.2.2.2 rfl (by omega) _ k (spCells (meshL cs (ps.take k))) (by rfl) ((HOZ.out z2).alloc _) ⟨z2.w.heap.size, 0, none⟩ 1 1 [.int .i64 lo, .int .i64 hi] (by rfl) (by rfl) (World.news_of_block (heap_alloc_new _ _)) (by simp [Value.oneCell']) (by omega) HMX.out.1 HMX.out.2 (Nat.le_trans (HBZ.out z2).size (by simp)) (z2.w.heap.size + 1) (by simp) ?_))
      intro gg cap w1 hown1 hgrow hat hl1
      have hB1 : Below V.heap.size V w1 := own_grown (bel_alloc (HBZ.out z2) _) ((HOZ.out z2).alloc _) hgrow
      have HN := Lib.hid hown1
      have HM := Lib.hid hB1
      clear hown1 hgrow hat hB1
      go_wp2_with fail
      go_roundw
      case rel => exact ⟨k + 1, by omega, by go_num, ⟨w1, HM.out⟩, rfl, by rw [HTT.out]; exact HN.out⟩
      case measure => simp [intOf]; omega
    · have i4 : decide ((k : Int) < (ps.length : Int)) = false := decide_eq_false (by omega)
      obtain rfl : k = ps.length := by omega
      rw [List.take_length] at hown
      have HX := Lib.hid (SpPost.of (meshL_length cs ps) hown HB0.out.size (below_next HB0.out y.2))
      clear hown
      go_wp2_with fail
      go_ret
      exact HX.out

end Go.Proofs.Ytafnmaojpheppaa
