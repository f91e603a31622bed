/- The plain laws of seep: shares grow with the volume; what Maybe knows is the least span of the states that may be. -/
import Derived.Test.YtacjhenjagageaaTurns
namespace Go.Proofs.Ytacjhenjagageaa
open Go.RowKit
set_option linter.unusedVariables false
set_option linter.unusedSimpArgs false

theorem fits_le {v n d : Int} (h : n ≤ d) (hv0 : 0 ≤ v) (hv : v ≤ 1125899906842624) : Xa.fits v n d = (decide (0 ≤ n) && decide (1 ≤ d) && decide (d ≤ 1125899906842624)) := by
  unfold Xa.fits
  rw [Bool.eq_iff_iff]
  simp only [decide_eq_true_eq, Bool.and_eq_true]
  constructor
  · rintro ⟨_, _, h3, _, h5, h6, _⟩
    exact ⟨⟨h3, h5⟩, h6⟩
  · rintro ⟨⟨h3, h5⟩, h6⟩
    have hq : v * n / d ≤ v * d / d := Int.ediv_le_ediv (by omega) (Int.mul_le_mul_of_nonneg_left h hv0)
    rw [Int.mul_ediv_cancel _ (by omega)] at hq
    exact ⟨hv0, hv, h3, by omega, h5, h6, by omega⟩
theorem partOf_mono {v v' n d : Int} (h : n ≤ d) (h0 : 0 ≤ v) (h1 : v ≤ v') (h2 : v' ≤ 1125899906842624) : partOf v n d ≤ partOf v' n d := by
  unfold partOf
  rw [fits_le h h0 (by omega), fits_le h (by omega) h2]
  by_cases hp : (decide (0 ≤ n) && decide (1 ≤ d) && decide (d ≤ 1125899906842624)) = true
  · rw [if_pos hp, if_pos hp]
    simp only [Bool.and_eq_true, decide_eq_true_eq] at hp
    exact Int.ediv_le_ediv (by omega) (Int.mul_le_mul_of_nonneg_right h1 (by omega))
  · rw [if_neg hp, if_neg hp]
    exact Int.le_refl _
theorem askOf_mono {kind num den bnum bden x x' y y' : Int} (h : num ≤ den) (hb : bnum ≤ bden) (x0 : 0 ≤ x) (x1 : x ≤ x') (x2 : x' ≤ 1125899906842624) (y0 : 0 ≤ y) (y1 : y ≤ y') (y2 : y' ≤ 1125899906842624) :
    askOf kind num den bnum bden x y' ≤ askOf kind num den bnum bden x' y := by
  unfold askOf
  by_cases hk : kind = 4
  · rw [if_pos hk, if_pos hk]
    have := partOf_mono h x0 x1 x2
    have := partOf_mono hb y0 y1 y2
    omega
  · rw [if_neg hk, if_neg hk]
    exact Int.le_refl _

/-! what Maybe knows -/
def hasB (klo khi : Int) (b : Bool) : Bool := decide (klo ≤ oneB b) && decide (oneB b ≤ khi)
def Span1 (T : Int → Prop) (st : Bool × Int × Int) : Prop := (st.1 = true → T st.2.1 ∧ T st.2.2) ∧ ∀ r, T r → st.1 = true ∧ st.2.1 ≤ r ∧ r ≤ st.2.2
theorem stepB_span {T : Int → Prop} {st : Bool × Int × Int} (kind prime brk klo khi x : Int) (b : Bool) (h : Span1 T st) :
    Span1 (fun r => T r ∨ (hasB klo khi b = true ∧ r = oneB (sipOpen kind prime brk x b))) (stepB kind prime brk klo khi x b st) := by
  obtain ⟨h1, h2⟩ := h
  unfold stepB
  show Span1 _ (if hasB klo khi b = true then _ else _)
  by_cases hh : hasB klo khi b = true
  · rw [if_pos hh]
    obtain ⟨f, lo, hi⟩ := st
    generalize oneB (sipOpen kind prime brk x b) = v
    cases f with
    | true =>
      rw [if_pos rfl]
      obtain ⟨t1, t2⟩ := h1 rfl
      simp only at t1 t2 h2
      refine ⟨fun _ => ⟨?_, ?_⟩, fun r hr => ⟨rfl, ?_, ?_⟩⟩
      · simp only
        by_cases hc : lo ≤ v
        · rw [Int.min_eq_left hc]; exact .inl t1
        · rw [Int.min_eq_right (by omega)]; exact .inr ⟨hh, rfl⟩
      · simp only
        by_cases hc : hi ≤ v
        · rw [Int.max_eq_right hc]; exact .inr ⟨hh, rfl⟩
        · rw [Int.max_eq_left (by omega)]; exact .inl t2
      · simp only
        rcases hr with hr | ⟨_, rfl⟩
        · have := h2 r hr; omega
        · omega
      · simp only
        rcases hr with hr | ⟨_, rfl⟩
        · have := h2 r hr; omega
        · omega
    | false =>
      rw [if_neg Bool.false_ne_true]
      refine ⟨fun _ => ⟨.inr ⟨hh, rfl⟩, .inr ⟨hh, rfl⟩⟩, fun r hr => ⟨rfl, ?_, ?_⟩⟩
      · rcases hr with hr | ⟨_, rfl⟩
        · exact absurd (h2 r hr).1 Bool.false_ne_true
        · exact Int.le_refl _
      · rcases hr with hr | ⟨_, rfl⟩
        · exact absurd (h2 r hr).1 Bool.false_ne_true
        · exact Int.le_refl _
  · rw [if_neg hh]
    refine ⟨fun hf => ⟨.inl (h1 hf).1, .inl (h1 hf).2⟩, fun r hr => ?_⟩
    rcases hr with hr | ⟨hc, _⟩
    · exact h2 r hr
    · exact absurd hc hh
theorem Span1.iff {T T' : Int → Prop} {st : Bool × Int × Int} (h : Span1 T st) (e : ∀ r, T r ↔ T' r) : Span1 T' st := by
  have : T = T' := funext fun r => propext (e r)
  rw [← this]; exact h
/-- the states that may be behind the step, for the volumes of a list -/
def InS (kind prime brk klo khi : Int) (l : List Int) (r : Int) : Prop := ∃ x ∈ l, ∃ b, hasB klo khi b = true ∧ r = oneB (sipOpen kind prime brk x b)
theorem foldX_span (kind prime brk klo khi : Int) (l : List Int) : ∀ (T : Int → Prop) (st : Bool × Int × Int), Span1 T st → Span1 (fun r => T r ∨ InS kind prime brk klo khi l r) (l.foldl (stepX kind prime brk klo khi) st) := by
  induction l with
  | nil =>
    intro T st h
    exact h.iff fun r => ⟨.inl, fun hr => hr.elim id (fun ⟨x, hx, _⟩ => by cases hx)⟩
  | cons x l ih =>
    intro T st h
    have h1 := ih _ _ (stepB_span kind prime brk klo khi x true (stepB_span kind prime brk klo khi x false h))
    refine h1.iff fun r => ?_
    constructor
    · rintro ((⟨h | ⟨h1, h2⟩⟩ | ⟨h1, h2⟩) | ⟨y, hy, b, h1, h2⟩)
      · exact .inl h
      · exact .inr ⟨x, by simp, _, h1, h2⟩
      · exact .inr ⟨x, by simp, _, h1, h2⟩
      · exact .inr ⟨y, by simp [hy], b, h1, h2⟩
    · rintro (h | ⟨y, hy, b, h1, h2⟩)
      · exact .inl (.inl (.inl h))
      · rcases List.mem_cons.1 hy with rfl | hy
        · cases b
          · exact .inl (.inl (.inr ⟨h1, h2⟩))
          · exact .inl (.inr ⟨h1, h2⟩)
        · exact .inr ⟨y, hy, b, h1, h2⟩
theorem foldX_is (kind prime brk klo khi : Int) (l : List Int) : Span1 (InS kind prime brk klo khi l) (foldX kind prime brk klo khi l) :=
  (foldX_span kind prime brk klo khi l (fun _ => False) (false, 0, 0) ⟨fun h => absurd h Bool.false_ne_true, fun _ h => h.elim⟩).iff fun r => ⟨fun h => h.elim (fun h => h.elim) id, .inr⟩
theorem corner_in {lo hi brk x : Int} (h : x ∈ cornersOf lo hi brk) : lo ≤ x ∧ x ≤ hi := by
  unfold cornersOf at h
  by_cases h1 : lo ≤ hi
  · rw [if_pos h1] at h
    by_cases h2 : brk < 9223372036854775807 ∧ lo ≤ brk + 1 ∧ brk + 1 ≤ hi
    · rw [if_pos h2] at h
      simp at h
      omega
    · rw [if_neg h2] at h
      simp at h
      omega
  · rw [if_neg h1] at h
    cases h
theorem corner_covers {lo hi prime brk x : Int} (h1 : lo ≤ x) (h2 : x ≤ hi) (h3 : hi ≤ 9223372036854775807) : ∃ c ∈ cornersOf lo hi brk, ∀ b, sipOpen 3 prime brk x b = sipOpen 3 prime brk c b := by
  unfold cornersOf
  rw [if_pos (by omega : lo ≤ hi)]
  by_cases ha : prime ≤ x
  · refine ⟨hi, ?_, fun b => ?_⟩
    · split <;> simp
    · unfold sipOpen
      rw [if_pos rfl, if_pos rfl, if_pos ha, if_pos (by omega)]
  · by_cases hb : x ≤ brk
    · refine ⟨lo, ?_, fun b => ?_⟩
      · split <;> simp
      · unfold sipOpen
        rw [if_pos rfl, if_pos rfl, if_neg ha, if_pos hb, if_neg (by omega), if_pos (by omega)]
    · by_cases hc : brk < lo
      · refine ⟨lo, ?_, fun b => ?_⟩
        · split <;> simp
        · unfold sipOpen
          rw [if_pos rfl, if_pos rfl, if_neg ha, if_neg hb, if_neg (by omega), if_neg (by omega)]
      · refine ⟨brk + 1, ?_, fun b => ?_⟩
        · rw [if_pos (by omega)]
          simp
        · unfold sipOpen
          rw [if_pos rfl, if_pos rfl, if_neg ha, if_neg hb, if_neg (by omega), if_neg (by omega)]
/-- the states that may be behind the step, for all volumes of a span -/
def InV (prime brk klo khi lo hi r : Int) : Prop := ∃ x, lo ≤ x ∧ x ≤ hi ∧ ∃ b, hasB klo khi b = true ∧ r = oneB (sipOpen 3 prime brk x b)
theorem inV_iff {prime brk klo khi lo hi r : Int} (h3 : hi ≤ 9223372036854775807) : InS 3 prime brk klo khi (cornersOf lo hi brk) r ↔ InV prime brk klo khi lo hi r := by
  constructor
  · rintro ⟨x, hx, b, h1, h2⟩
    obtain ⟨g1, g2⟩ := corner_in hx
    exact ⟨x, g1, g2, b, h1, h2⟩
  · rintro ⟨x, g1, g2, b, h1, h2⟩
    obtain ⟨c, hc, he⟩ := corner_covers (prime := prime) (brk := brk) g1 g2 h3
    exact ⟨c, hc, b, h1, by rw [h2, he b]⟩
theorem maybe_is {prime brk klo khi lo hi : Int} (h3 : hi ≤ 9223372036854775807) :
    (∃ r, InV prime brk klo khi lo hi r) → InV prime brk klo khi lo hi (maybeOpen 3 prime brk klo khi lo hi).1 ∧ InV prime brk klo khi lo hi (maybeOpen 3 prime brk klo khi lo hi).2 ∧ ∀ r, InV prime brk klo khi lo hi r → (maybeOpen 3 prime brk klo khi lo hi).1 ≤ r ∧ r ≤ (maybeOpen 3 prime brk klo khi lo hi).2 := by
  rintro ⟨r0, hr0⟩
  have h := (foldX_is 3 prime brk klo khi (cornersOf lo hi brk)).iff (fun r => inV_iff h3)
  have hf := (h.2 r0 hr0).1
  have e : maybeOpen 3 prime brk klo khi lo hi = (foldX 3 prime brk klo khi (cornersOf lo hi brk)).2 := by
    unfold maybeOpen
    rw [if_pos rfl, if_pos hf]
  rw [e]
  exact ⟨(h.1 hf).1, (h.1 hf).2, fun r hr => (h.2 r hr).2⟩
theorem maybe_none {prime brk klo khi lo hi : Int} (h3 : hi ≤ 9223372036854775807) (hn : ¬ ∃ r, InV prime brk klo khi lo hi r) : maybeOpen 3 prime brk klo khi lo hi = (klo, khi) := by
  have h := (foldX_is 3 prime brk klo khi (cornersOf lo hi brk)).iff (fun r => inV_iff h3)
  unfold maybeOpen
  rw [if_pos rfl]
  by_cases hf : (foldX 3 prime brk klo khi (cornersOf lo hi brk)).1 = true
  · exact absurd ⟨_, (h.1 hf).1⟩ hn
  · rw [if_neg hf]
theorem oneB_01 (b : Bool) : 0 ≤ oneB b ∧ oneB b ≤ 1 := by cases b <;> decide

theorem within20_any (lo hi : Int) (w : World) :
    Calls Try.prog 18 #[.agg #[.int .i64 lo, .int .i64 hi]] w fun e w' => e = .returned (.bool (decide (0 ≤ lo) && decide (hi ≤ 1125899906842624) && decide (lo ≤ hi))) ∧ Below w.heap.size w w' := by
  obtain ⟨p, hp⟩ : ∃ p, (decide (0 ≤ lo) && decide (hi ≤ 1125899906842624)) = p := ⟨_, rfl⟩
  have HW := Lib.hid (fun w => hp ▸ within_any lo hi 0 1125899906842624 w)
  rw [hp]
  clear hp
  go_enter Try.func18, Try.ntmps18
  go_wp2_with fail
  refine rebase _ (fun V1 hV x1 => ?_)
  have HB1 := Lib.hid (bel_at hV (bel_alloc (Below.refl w.heap.size w) _))
  have HC1 := Lib.hid (Cs.at hV ((Cs.nil w).alloc _ _))
  have hu1 := HC1.out.bx
  simp only [Bx, newCells, join] at hu1
  clear hV
  refine (bel_of (HW.out _)).mono ?_
  rintro e w' ⟨rfl, y1, rfl⟩
  cases p with
  | true =>
    go_wp2_with (go_at_call 23; refine (bel_of (right_any _ _ _)).mono ?_; rintro e w' ⟨rfl, z, rfl⟩)
    go_ret
    exact ⟨rfl, below_next HB1.out z.2⟩
  | false =>
    go_wp2_with fail
    go_ret
    exact ⟨rfl, below_next HB1.out y1.2⟩
theorem within20_tell {lo hi : Int} {p : Bool} (h : (decide (0 ≤ lo) && decide (hi ≤ 1125899906842624) && decide (lo ≤ hi)) = p) (w : World) :
    Calls Try.prog 18 #[.agg #[.int .i64 lo, .int .i64 hi]] w fun e w' => e = .returned (.bool p) ∧ Below w.heap.size w w' := h ▸ within20_any lo hi w
theorem inside20_any (lo hi n : Int) (w : World) :
    Calls Try.prog 21 #[.agg #[.int .i64 lo, .int .i64 hi], .int .i64 n] w fun e w' => e = .returned (.int .i64 (Xa.clamp n lo hi)) ∧ Below w.heap.size w w' := by
  go_enter Try.func21, Try.ntmps21
  go_wp2_with (go_at_call 30; refine (clamp_any _ _ _ _).mono ?_; rintro e w' ⟨rfl, rfl⟩)
  go_ret
  exact ⟨rfl, by go_grown⟩

end Go.Proofs.Ytacjhenjagageaa
