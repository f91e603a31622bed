/- bourneref17: Give. -/
import Derived.Test.YtfmnlnmajephlaaPRefC
namespace Go.Proofs.Ytfmnlnmajephlaa
open Go.RowKit Go.ChangeShapes Go.WideShapes Go.Joins
set_option linter.unusedVariables false
set_option linter.unusedSimpArgs false

theorem open_row_ints2 {H : Type} {enc : TypeId × Value → H} {P : Program} {w : World} {base : Nat} {spare : Nat → Bool} {held : Bool} {r : Reach} {b0 : Nat} {t e : TypeId} {v : Value} {d : DataW H} {p : List MemPlace} (ht : P.underlying t = some (.slice e)) (he : P.underlying e = some (.int .i64)) (hc : P.cellsOf e = 1)
    (hv : Value.okWide P w r b0 t v) (h : DataW.Trod enc P w base spare held t v d p) : ∃ (A : Option Addr) (c : Nat) (xs : List Int), v = .slice A xs.length c ∧ Rd w A (xs.map (Value.int .i64)) ∧ xs.length ≤ maxLen ∧ xs.length ≤ c ∧ (∀ x ∈ xs, Fit x) ∧ (A = none → c = 0) := by
  obtain ⟨a, len, cap, rfl⟩ := okWide_slice ht hv
  obtain ⟨fuel, hf⟩ := h
  rcases open_ints ht he hc hf with ⟨h1, _⟩ | ⟨ad, n, c, zs, h1, _, hn, hm, hz, _, hcell, hwf⟩
  · simp [Value.cells] at h1
    obtain ⟨rfl, rfl, rfl⟩ := h1
    exact ⟨none, 0, [], rfl, Rd.nil _ _, by simp, by simp, by simp, fun _ => rfl⟩
  · simp [Value.cells] at h1
    obtain ⟨rfl, rfl, rfl⟩ := h1
    have hl : len ≤ zs.length := by split at hz <;> omega
    have hlen : (zs.take len).length = len := by simp; omega
    refine ⟨some ad, cap, zs.take len, by rw [hlen], ?_, by omega, by omega, fun x hx => ?_, fun h => by cases h⟩
    · intro hn0
      rw [List.length_map, hlen] at hn0
      have h0 := hcell 0 (by omega)
      refine ⟨ad, rfl, by have := World.block_lt_of_cell? w _ h0; rwa [add_block] at this, fun j u hu => ?_⟩
      rw [List.getElem?_map] at hu
      obtain ⟨x, hx, rfl⟩ := Option.map_eq_some_iff.1 hu
      have hj : j < len := by have := (List.getElem?_eq_some_iff.1 hx).1; omega
      rw [hcell j (by omega)]
      rw [List.getElem?_take_of_lt hj] at hx
      simp [List.getD, hx]
    · have := hwf x (List.mem_of_mem_take hx)
      exact bounds_i64 this
set_option maxHeartbeats 8000000 in
set_option maxRecDepth 100000 in
theorem refgive_any (A : Option Addr) (c : Nat) (p : List Int) (n : Nat) (hp : p.length = n) (hn : n ≤ 1000) (hf : ∀ i, i < n → Fit (gi p i)) (hnil : A = none → c = 0) (f t k : Int) (w : World) (hr : Rd w A (ints p)) :
    Calls Try.prog 22 #[.slice A n c, .int .i64 f, .int .i64 t, .int .i64 k] w (RowPost n (giveF p f t k) w) := by
  obtain ⟨i0, hi0, hz0, hz1, hz2⟩ := info_parts info_int2
  have hml : n ≤ maxLen := by unfold maxLen; omega
  have INF := Lib.hid (And.intro hi0 (And.intro hz0 (And.intro hz1 (And.intro hz2 hml))))
  have HP := Lib.hid hr
  have HF := Lib.hid hf
  obtain ⟨ah, hex⟩ := at_has p f k
  obtain ⟨x, hx⟩ : ∃ x, giveF p f t k = x := ⟨_, rfl⟩
  unfold giveF at hx
  have hx2 : (if 0 < min k (atI p f) ∧ 0 ≤ t ∧ t < (p.length : Int) ∧ f ≠ t then (p.set f.toNat (gi p f.toNat - min k (atI p f))).set t.toNat (Xa.add (gi p t.toNat) (min k (atI p f))) else p) = x := by
    rw [← hx]
    by_cases hm : 0 < min k (atI p f)
    · rw [(hex hm).1]
    · rw [if_neg (fun h => hm h.1), if_neg (fun h => hm (ah.2 h.1))]
  rw [show giveF p f t k = x from by unfold giveF; exact hx]
  clear hx ah
  obtain ⟨h, hh⟩ : ∃ h, atI p f = h := ⟨_, rfl⟩
  rw [hh] at hx2 hex
  obtain ⟨m, hm⟩ : ∃ m, min k h = m := ⟨_, rfl⟩
  rw [hm] at hx2 hex
  have HH := Lib.hid hh
  have HM := Lib.hid hm
  have HX := Lib.hid hx2
  have HEX := Lib.hid (fun hm0 => (hex hm0).2)
  clear hi0 hz0 hz1 hz2 hml hr hf hh hm hx2 hex
  have HNIL := Lib.hid hnil
  clear hnil
  by_cases hn0 : n = 0
  · subst hn0
    obtain rfl : p = [] := List.eq_nil_of_length_eq_zero hp
    have HOW := Lib.hid (World.ownsRow_made (base := w.heap.size) (e := 3) (size := 1) w #[] 0 (Nat.le_refl _) (by unfold maxLen; omega) (by simp))
    have HB0 := Lib.hid (bel_alloc (Below.refl w.heap.size w) (.cells #[] 3))
    go_enter Try.func22, Try.ntmps22
    go_upto_region 1 with fail
    go_wp2_with (first | (at_builtin; refine wpList_append_fits_any _ rfl _ _ 22 (by rfl) w.heap.size 3 i0 1 Try.underlying22 INF.out.1 INF.out.2.2.1 w.heap.size 0 0 [] (by rfl) HOW.out A 0 c [] (by rfl) rfl (fun h => ⟨rfl, HNIL.out h⟩) (fun ad _ j u h => by cases h) (fun u h => by cases h) (by omega) ?_))
    intro w1 hown1 hgrow1
    have HB1 := Lib.hid (HB0.out.grown hgrow1 HB0.out.size (fun i hi => by cases hi; exact Nat.le_refl _))
    have HO1 := Lib.hid hown1
    clear hown1 hgrow1
    have HC := Lib.hid (at_any A c [] f (by simp) w1 (fun h => absurd h (by simp [ints])))
    have h0 : atI [] f = 0 := by unfold atI; rw [if_neg (by intro h; have := h.2; simp at this; omega)]
    rw [HH.out] at h0
    subst h0
    rw [HH.out, List.length_nil] at HC
    have hm := HM.out
    have t1 : decide (m ≤ 0) = true := decide_eq_true (by omega)
    have HE := Lib.hid (show ([] : List Int) = x by rw [← HX.out, if_neg (fun h => by omega)])
    go_wp2_with (first | (go_at_call 32; with_reducible refine HC.out.mono ?_; rintro e w2 ⟨rfl, rfl⟩))
    go_ret
    exact ⟨_, rfl, by rw [← HE.out]; exact HO1.out, HB1.out⟩
  obtain ⟨ad, e0, hb0, hc0⟩ := HP.out (by rw [ints_length]; omega)
  subst e0
  have HOW := Lib.hid (World.ownsRow_made (base := w.heap.size) (e := 3) (size := 1) w #[] 0 (Nat.le_refl _) (by unfold maxLen; omega) (by simp))
  have HNW := Lib.hid (show ∀ j u, (ints p)[j]? = some u → (w.alloc (.cells #[] 3)).cell? (ad.add j) = some u from fun j u hj => cell_alloc (hc0 j u hj) _)
  have HMX := Lib.hid (show 0 + n ≤ maxLen ∧ (0 + n) * 8 ≤ 140737488355328 by unfold maxLen; constructor <;> omega)
  have HB0 := Lib.hid (bel_alloc (Below.refl w.heap.size w) (.cells #[] 3))
  go_enter Try.func22, Try.ntmps22
  go_upto_region 1 with fail
  go_wp2_with (first | (at_builtin; refine wpList_append_lies _ rfl _ _ _ (by rfl) _ 3 i0 _ 1 8 Try.underlying22 INF.out.1 INF.out.2.1 INF.out.2.2.1 INF.out.2.2.2.1 rfl (by omega) _ 0 [] (by rfl) HOW.out ad n c (ints p) (by rfl) (by rw [ints_length, hp, Nat.mul_one]) HNW.out (ints_one p) (by omega) HMX.out.1 HMX.out.2 HB0.out.size (w.heap.size + 1) (by simp) ?_))
  intro g cap w1 hown1 hgrow1 hat1 hl1
  try rw [List.nil_append] at hown1
  have HB1 := Lib.hid (HB0.out.grown hgrow1 HB0.out.size (fun i hi => by cases hi; exact Nat.le_refl _))
  have HO1 := Lib.hid hown1
  clear hown1 hgrow1 hat1
  have HC := Lib.hid (at_any (some ad) c p f (by omega) w1 (HP.out.below (Nat.le_refl _) HB1.out))
  rw [hp, HH.out] at HC
  have hm := HM.out
  go_upto_region 3 with (first | (go_at_call 32; with_reducible refine HC.out.mono ?_; rintro e w2 ⟨rfl, rfl⟩))
  clear hm HC HNW HOW
  have HI1 := Lib.hid (show w1.ownsRow w.heap.size 3 1 (.slice (some ⟨g, 0, none⟩) n cap) n (ints p) from HO1.out)
  by_cases h1 : m ≤ 0
  · have t1 : decide (m ≤ 0) = true := decide_eq_true h1
    have HE := Lib.hid (show p = x by rw [← HX.out, if_neg (fun h => by omega)])
    clear h1
    go_wp2_with fail
    go_ret
    exact ⟨_, rfl, by rw [← HE.out]; exact HI1.out, HB1.out⟩
  have t1 : decide (m ≤ 0) = false := decide_eq_false h1
  by_cases h2 : t < 0
  · have t2 : decide (t < 0) = true := decide_eq_true h2
    have HE := Lib.hid (show p = x by rw [← HX.out, if_neg (fun h => by omega)])
    clear h2
    go_wp2_with fail
    go_ret
    exact ⟨_, rfl, by rw [← HE.out]; exact HI1.out, HB1.out⟩
  have t2 : decide (t < 0) = false := decide_eq_false h2
  by_cases h3 : (n : Int) ≤ t
  · have t3 : decide ((n : Int) ≤ t) = true := decide_eq_true h3
    have HE := Lib.hid (show p = x by rw [← HX.out, if_neg (fun h => by have := h.2.2.1; omega)])
    clear h3
    go_wp2_with fail
    go_ret
    exact ⟨_, rfl, by rw [← HE.out]; exact HI1.out, HB1.out⟩
  have t3 : decide ((n : Int) ≤ t) = false := decide_eq_false h3
  by_cases h4 : f = t
  · have t4 : (f == t) = true := beq_iff_eq.2 h4
    have HE := Lib.hid (show p = x by rw [← HX.out, if_neg (fun h => h.2.2.2 h4)])
    subst h4
    go_wp2_with fail
    go_ret
    exact ⟨_, rfl, by rw [← HE.out]; exact HI1.out, HB1.out⟩
  have t4 : (f == t) = false := beq_eq_false_iff_ne.2 h4
  obtain ⟨i, rfl, hi, hip⟩ := HEX.out (by omega)
  rw [hp] at hi
  obtain ⟨j, rfl⟩ := Int.eq_ofNat_of_zero_le (show 0 ≤ t by omega)
  have hj : j < n := by omega
  have hij : i ≠ j := by omega
  have hmh : m ≤ h := by have := HM.out; omega
  have HE := Lib.hid (show (p.set i (gi p i - m)).set j (Xa.add (gi p j) m) = x by rw [← HX.out, if_pos ⟨by omega, by omega, by omega, h4⟩]; simp)
  have c1 : w1.cell? ⟨g, i, none⟩ = some (.int .i64 (gi p i)) := by rw [World.ownsRow.cellAt HI1.out i (by omega), ints_at (by omega)]
  have f1 := World.ownsRow.frozenAt HI1.out i
  have hfi := HF.out i hi
  have hfj := HF.out j hj
  have hs1 := (World.ownsRow.stored HI1.out i (.int .i64 (gi p i - m))).1
  rw [ints_set, hip] at hs1
  rw [hip] at c1 hfi HE
  have HS1 := Lib.hid hs1
  have c2 : (w1.setCell ⟨g, i, none⟩ (.int .i64 (h - m))).cell? ⟨g, j, none⟩ = some (.int .i64 (gi p j)) := by
    rw [World.ownsRow.cellAt HS1.out j (by omega), ints_at (by rw [List.length_set]; omega), gi_set_other hij]
  have f2 := World.ownsRow.frozenAt HS1.out j
  have hs2 := (World.ownsRow.stored HS1.out j (.int .i64 (Xa.add (gi p j) m))).1
  rw [ints_set, HE.out] at hs2
  have hgb := (HI1.out.lt g rfl).1
  have hb5 := (HB1.out.setCell (p := ⟨g, i, none⟩) hgb (.int .i64 (h - m))).setCell (p := ⟨g, j, none⟩) hgb (.int .i64 (Xa.add (gi p j) m))
  obtain ⟨b, hb⟩ : ∃ b, gi p j = b := ⟨_, rfl⟩
  rw [hb] at c2 hfj hs2 hb5
  unfold Fit at hfi
  have hadd := refadd_any b m hfj.1 hfj.2 (by omega) (by omega) (w1.setCell ⟨g, i, none⟩ (.int .i64 (h - m)))
  obtain ⟨s, hs⟩ : ∃ s, Xa.add b m = s := ⟨_, rfl⟩
  rw [hs] at hadd hs2 hb5
  have C := Lib.hid hadd
  have HS2 := Lib.hid hs2
  have HB5 := Lib.hid hb5
  have w0 : IntKind.i64.wrap (h - m) = h - m := IntWalk.i64_in _ (by omega)
  have j1 : (0 : Int) ≤ (i : Int) := by omega
  have j2 : (i : Int) < (n : Int) := by omega
  have j3 : (0 : Int) ≤ (j : Int) := by omega
  have j4 : (j : Int) < (n : Int) := by omega
  clear hb hs hip hfi hfj h1 h2 h3 h4 hij hs1 hs2 hb5 hadd hgb
  go_upto_region 6 with fail
  go_upto_region 7 with (first | (go_at_call 33; with_reducible refine C.out.mono ?_; rintro e w' ⟨rfl, rfl⟩))
  go_wp2_with fail
  go_ret
  exact ⟨_, rfl, HS2.out, HB5.out⟩

end Go.Proofs.Ytfmnlnmajephlaa
