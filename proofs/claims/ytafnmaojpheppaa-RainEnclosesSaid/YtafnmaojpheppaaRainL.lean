/- What the rain does: it encloses, narrows, adds. No walk. -/
import Derived.Test.YtafnmaojpheppaaMisc26
namespace Go.Proofs.Ytafnmaojpheppaa
open Go.RowKit
set_option linter.unusedVariables false
set_option linter.unusedSimpArgs false

theorem xadd_mono {a a' b b' : Int} (h1 : a ≤ a') (h2 : b ≤ b') : Xa.add a b ≤ Xa.add a' b' := by
  unfold Xa.add
  split <;> split <;> (try split) <;> (try split) <;> omega
theorem litF_pos {n a : Int} (h1 : 0 < n) (h2 : 0 < a) : (n * a ≤ 1125899906842624 → n ≤ 1125899906842624 → a ≤ 1125899906842624 → litF n a = n * a) ∧ (¬ (n * a ≤ 1125899906842624 ∧ n ≤ 1125899906842624 ∧ a ≤ 1125899906842624) → litF n a = 1125899906842624) := by
  unfold litF
  rw [if_neg (by omega)]
  refine ⟨fun h3 h4 h5 => ?_, fun h => ?_⟩
  · rw [Xa.scale_yes ⟨by omega, h4, by omega, h5, by omega, by omega, by rw [Int.ediv_one]; exact h3⟩]
    simp
  · rw [Xa.scale_no (fun hh => h ⟨by have := hh.2.2.2.2.2.2; rwa [Int.ediv_one] at this, hh.2.1, hh.2.2.2.1⟩)]
    simp
theorem litF_mono {n m : Int} (a : Int) (h : n ≤ m) : litF n a ≤ litF m a := by
  by_cases ha : 0 < a
  · by_cases hn : 0 < n
    · have hm : 0 < m := by omega
      have hp := litF_pos hn ha
      have hq := litF_pos hm ha
      have hle : n * a ≤ m * a := Int.mul_le_mul_of_nonneg_right h (by omega)
      by_cases hk : m * a ≤ 1125899906842624 ∧ m ≤ 1125899906842624 ∧ a ≤ 1125899906842624
      · rw [hq.1 hk.1 hk.2.1 hk.2.2, hp.1 (by omega) (by omega) hk.2.2]
        exact hle
      · rw [hq.2 hk]
        exact (litF_bd n a).2
    · have : litF n a = 0 := by unfold litF; rw [if_pos (.inl (by omega))]
      rw [this]
      exact (litF_bd m a).1
  · have h1 : litF n a = 0 := by unfold litF; rw [if_pos (.inr (by omega))]
    have h2 : litF m a = 0 := by unfold litF; rw [if_pos (.inr (by omega))]
    omega
theorem meshS_mono {f g : Sp → Int} {cs ds : List Sp} (hl : cs.length = ds.length) (h : ∀ j, j < cs.length → f (gs cs j) ≤ g (gs ds j)) (rain : List Sp) : meshS f cs rain ≤ meshS g ds rain := by
  refine list_snoc (R := fun r => meshS f cs r ≤ meshS g ds r) (Int.le_refl _) (fun l x ih => ?_) rain
  rw [meshS_snoc, meshS_snoc]
  unfold meshStep
  rw [← hl]
  split
  · rename_i hx
    exact xadd_mono ih (litF_mono _ (h _ (by omega)))
  · exact ih
theorem meshF_mono {f g : Sp → Int} {cs ds : List Sp} (hl : cs.length = ds.length) (h : ∀ j, j < cs.length → f (gs cs j) ≤ g (gs ds j)) (rain : List Sp) : meshF f cs rain ≤ meshF g ds rain := by
  have := meshS_mono hl h rain
  unfold meshF
  omega
theorem meshL_at {cs : List Sp} {ps : List Pr} {k : Nat} (hk : k < ps.length) : gs (meshL cs ps) k = meshP cs (pr ps k).rain := by
  rw [gs_at (by rw [meshL_length]; exact hk), pr_at hk]
  simp [meshL]

/-! the radar -/
theorem rad_right (v p : Int) : radLo v p ≤ radHi v p ∧ 0 ≤ radLo v p := by
  obtain ⟨_, h1, h2⟩ := rad_lo v p
  obtain ⟨h3, h4, h5, h6⟩ := rad_bd v p
  refine ⟨?_, h1⟩
  have hp : 0 ≤ radV v * radP p := Int.mul_nonneg h3 h5
  have he : radV v * (1000 + radP p) = radV v * 1000 + radV v * radP p := Int.mul_add _ _ _
  unfold radHi
  split <;> omega
theorem rad_has {v p m : Int} (v1 : 0 ≤ v) (v2 : v ≤ 2199023255552) (p1 : 0 ≤ p) (p2 : p < 1000) (m1 : 0 ≤ m) (m2 : m ≤ 1099511627776) (h1 : 1000 * (v - m) ≤ p * v) (h2 : 1000 * (m - v) ≤ p * v) : radLo v p ≤ m ∧ m ≤ radHi v p := by
  have e1 : radV v = v := by unfold radV; omega
  have e2 : radP p = p := by unfold radP; omega
  have e3 : v * (1000 - p) = v * 1000 - p * v := by rw [Int.mul_sub, Int.mul_comm v p]
  have e4 : v * (1000 + p) = v * 1000 + p * v := by rw [Int.mul_add, Int.mul_comm v p]
  unfold radLo radHi
  rw [e1, e2, e3, e4]
  constructor
  · omega
  · split <;> omega

/-! cells -/
def InS (s : Sp) (n : Int) : Prop := s.1 ≤ n ∧ n ≤ s.2
theorem cellAt_has {G : List Gg} {radar : List Int} {p : Int} {i : Nat} {m : Int} (h0 : InS (radLo (gi radar i) p, radHi (gi radar i) p) m) (rs : List Rg) : (∀ r ∈ rs, ofR G r i → r.lo ≤ m ∧ m ≤ r.hi) → InS (cellAt G radar p rs i) m := by
  refine list_snoc (R := fun rs => (∀ r ∈ rs, ofR G r i → r.lo ≤ m ∧ m ≤ r.hi) → InS (cellAt G radar p rs i) m) (fun _ => h0) (fun l x ih h => ?_) rs
  have ih' := ih fun r hr => h r (List.mem_append_left _ hr)
  rw [cellAt_snoc]
  unfold cellStep
  split
  · rename_i hx
    obtain ⟨h1, h2⟩ := h x (by simp) hx.1
    obtain ⟨h3, h4⟩ := ih'
    exact ⟨by show max _ _ ≤ m; omega, by show m ≤ min _ _; omega⟩
  · exact ih'
/-- within -/
def Wi (a b : Sp) : Prop := b.1 ≤ a.1 ∧ a.2 ≤ b.2
theorem Wi.refl (a : Sp) : Wi a a := ⟨Int.le_refl _, Int.le_refl _⟩
theorem cellStep_narrows (G : List Gg) (i : Nat) (s : Sp) (r : Rg) (h : s.1 ≤ s.2) : (cellStep G i s r).1 ≤ (cellStep G i s r).2 ∧ Wi (cellStep G i s r) s := by
  unfold cellStep
  split
  · rename_i hx
    exact ⟨hx.2.2, by show s.1 ≤ max _ _; omega, by show min _ _ ≤ s.2; omega⟩
  · exact ⟨h, Wi.refl _⟩
theorem cellAt_narrows (G : List Gg) (radar : List Int) (p : Int) (rs ss : List Rg) (i : Nat) : (cellAt G radar p (rs ++ ss) i).1 ≤ (cellAt G radar p (rs ++ ss) i).2 ∧ 0 ≤ (cellAt G radar p (rs ++ ss) i).1 ∧ Wi (cellAt G radar p (rs ++ ss) i) (cellAt G radar p rs i) := by
  have h0 : ∀ rs, (cellAt G radar p rs i).1 ≤ (cellAt G radar p rs i).2 ∧ 0 ≤ (cellAt G radar p rs i).1 := fun rs => by
    refine list_snoc (R := fun rs => (cellAt G radar p rs i).1 ≤ (cellAt G radar p rs i).2 ∧ 0 ≤ (cellAt G radar p rs i).1) (rad_right _ _) (fun l x ih => ?_) rs
    rw [cellAt_snoc]
    obtain ⟨h1, h2⟩ := cellStep_narrows G i (cellAt G radar p l i) x ih.1
    exact ⟨h1, by have := h2.1; omega⟩
  refine ⟨(h0 _).1, (h0 _).2, ?_⟩
  refine list_snoc (R := fun ss => Wi (cellAt G radar p (rs ++ ss) i) (cellAt G radar p rs i)) (by rw [List.append_nil]; exact Wi.refl _) (fun l x ih => ?_) ss
  rw [← List.append_assoc, cellAt_snoc]
  obtain ⟨_, h2⟩ := cellStep_narrows G i (cellAt G radar p (rs ++ l) i) x (h0 _).1
  exact ⟨by have := h2.1; have := ih.1; omega, by have := h2.2; have := ih.2; omega⟩

/-! rain that adds -/
theorem litF_lin {n a : Int} (n1 : 0 ≤ n) (n2 : n ≤ 131072) (a2 : a ≤ 1048576) : litF n a = n * max a 0 := by
  by_cases ha : 0 < a
  · by_cases hn : 0 < n
    · have hb : n * a ≤ 131072 * 1048576 := Int.le_trans (Int.mul_le_mul_of_nonneg_right n2 (by omega)) (Int.mul_le_mul_of_nonneg_left a2 (by omega))
      rw [(litF_pos hn ha).1 (by omega) (by omega) (by omega), show max a 0 = a by omega]
    · have e : n = 0 := by omega
      subst e
      unfold litF
      rw [if_pos (.inl (by omega))]; simp
  · unfold litF
    rw [if_pos (.inr (by omega)), show max a 0 = 0 by omega]; simp
theorem lit_le {n a : Int} (n1 : 0 ≤ n) (n2 : n ≤ 131072) (a2 : a ≤ 1048576) : 0 ≤ n * max a 0 ∧ n * max a 0 ≤ 137438953472 := by
  refine ⟨Int.mul_nonneg n1 (by omega), ?_⟩
  have : n * max a 0 ≤ 131072 * 1048576 := Int.le_trans (Int.mul_le_mul_of_nonneg_right n2 (by omega)) (Int.mul_le_mul_of_nonneg_left (by omega) (by omega))
  omega
theorem mesh_adds {one two both : List Int} (hl : one.length = two.length) (hb : both.length = one.length) (h1 : ∀ i, i < one.length → 0 ≤ gi one i ∧ gi one i ≤ 65536) (h2 : ∀ i, i < one.length → 0 ≤ gi two i ∧ gi two i ≤ 65536) (h3 : ∀ i, i < one.length → gi both i = gi one i + gi two i)
    (rain : List Sp) : (∀ c ∈ rain, c.2 ≤ 1048576) → (0 ≤ meshS Prod.fst (exs one) rain ∧ meshS Prod.fst (exs one) rain ≤ 137438953472 * (rain.length : Int)) ∧ (0 ≤ meshS Prod.fst (exs two) rain ∧ meshS Prod.fst (exs two) rain ≤ 137438953472 * (rain.length : Int)) ∧ (rain.length ≤ 100 → meshS Prod.fst (exs both) rain = meshS Prod.fst (exs one) rain + meshS Prod.fst (exs two) rain) := by
  have step : ∀ (mm : List Int) (l : List Sp) (x : Sp), meshS Prod.fst (exs mm) (l ++ [x]) = if 0 ≤ x.1 ∧ x.1 < (mm.length : Int) then Xa.add (meshS Prod.fst (exs mm) l) (litF (gi mm x.1.toNat) x.2) else meshS Prod.fst (exs mm) l := fun mm l x => by
    rw [meshS_snoc]
    unfold meshStep
    rw [exs_length]
    split
    · rename_i h
      rw [exs_at (by omega)]
    · rfl
  have addI : ∀ a b : Int, -9223372036854775808 ≤ a + b → a + b ≤ 9223372036854775807 → Xa.add a b = a + b := fun a b g1 g2 => by unfold Xa.add; rw [if_neg (by omega), if_neg (by omega)]
  have bd : ∀ mm : List Int, mm.length = one.length → (∀ i, i < one.length → 0 ≤ gi mm i ∧ gi mm i ≤ 131072) → ∀ rain : List Sp, (∀ c ∈ rain, c.2 ≤ 1048576) → 0 ≤ meshS Prod.fst (exs mm) rain ∧ meshS Prod.fst (exs mm) rain ≤ 137438953472 * (rain.length : Int) := fun mm hmm hg rain => by
    refine list_snoc (R := fun rain => (∀ c ∈ rain, c.2 ≤ 1048576) → 0 ≤ meshS Prod.fst (exs mm) rain ∧ meshS Prod.fst (exs mm) rain ≤ 137438953472 * (rain.length : Int)) (fun _ => by simp [meshS]) (fun l x ih h => ?_) rain
    have ih' := ih fun c hc => h c (List.mem_append_left _ hc)
    rw [step, List.length_append]
    simp only [List.length_cons, List.length_nil]
    split
    · rename_i hx
      obtain ⟨g1, g2⟩ := hg x.1.toNat (by omega)
      rw [litF_lin g1 g2 (h x (by simp))]
      have := lit_le g1 g2 (h x (by simp))
      have hm := xadd_mono (Int.le_refl (meshS Prod.fst (exs mm) l)) this.1
      constructor
      · have e := xadd_mono ih'.1 this.1
        have e0 : Xa.add 0 0 = 0 := by decide
        omega
      · unfold Xa.add
        split
        · omega
        · split <;> omega
    · omega
  intro hr
  refine ⟨bd one rfl (fun i hi => by have := h1 i hi; omega) rain hr, bd two hl.symm (fun i hi => by have := h2 i hi; omega) rain hr, ?_⟩
  revert hr
  refine list_snoc (R := fun rain => (∀ c ∈ rain, c.2 ≤ 1048576) → rain.length ≤ 100 → meshS Prod.fst (exs both) rain = meshS Prod.fst (exs one) rain + meshS Prod.fst (exs two) rain) (fun _ _ => by simp [meshS]) (fun l x ih h hn => ?_) rain
  have hl' := fun c hc => h c (List.mem_append_left _ hc)
  rw [List.length_append] at hn
  simp only [List.length_cons, List.length_nil] at hn
  have b1 := bd one rfl (fun i hi => by have := h1 i hi; omega) l hl'
  have b2 := bd two hl.symm (fun i hi => by have := h2 i hi; omega) l hl'
  rw [step, step, step, hb, ← hl]
  split
  · rename_i hx
    obtain ⟨g1, g2⟩ := h1 x.1.toNat (by omega)
    obtain ⟨g3, g4⟩ := h2 x.1.toNat (by omega)
    have g5 := h3 x.1.toNat (by omega)
    have hx2 := h x (by simp)
    rw [ih hl' (by omega), g5, litF_lin (by omega) (by omega) hx2, litF_lin g1 (by omega) hx2, litF_lin g3 (by omega) hx2, Int.add_mul]
    have c1 := lit_le g1 (by omega) hx2
    have c2 := lit_le g3 (by omega) hx2
    rw [addI _ _ (by omega) (by omega), addI _ _ (by omega) (by omega), addI _ _ (by omega) (by omega)]
    omega
  · exact ih hl' (by omega)

end Go.Proofs.Ytafnmaojpheppaa
