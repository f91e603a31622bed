/- reach.Push and its reference. -/
import Derived.Test.YthbjechgdjcogaaSlib
namespace Go.Proofs.Ythbjechgdjcogaa
open Go.RowKit
set_option linter.unusedVariables false
set_option linter.unusedSimpArgs false

theorem info_load : (Try.prog.info? 53).map (fun i => (i.zero, i.size, i.bytes)) = some (some (.agg #[.int .i64 0, .int .i64 0, .slice none 0 0]), 3, 40) := by kernel_rfl

/-! the search for a positive number -/
def AnyPos (p : List Int) : Prop := ∃ j, j < p.length ∧ 0 < gi p j
noncomputable def anyB (p : List Int) : Bool := @decide (AnyPos p) (Classical.propDecidable _)
theorem anyB_iff {p : List Int} : anyB p = true ↔ AnyPos p := by unfold anyB; exact @decide_eq_true_iff _ (Classical.propDecidable _)
theorem pos_any (k : Int) (w : World) : Calls Try.prog 31 #[.int .i64 k] w fun e w' => e = .returned (.bool (decide (0 < k))) ∧ w = w' := by
  go_enter Try.func31, Try.ntmps31
  go_wp2_with fail
  go_ret
  exact ⟨rfl, rfl⟩
def IxPost (p : List Int) (w : World) (e : Ending) (w' : World) : Prop := ∃ r : Int, e = .returned (.int .i64 r) ∧ decide (0 ≤ r) = anyB p ∧ Below w.heap.size w w'
def IxR (V : World) (p : List Int) (s8 : Value) (wr : World) : Prop := ∃ k : Nat, k ≤ p.length ∧ s8 = .int .i64 (k : Int) ∧ Hid (∀ j, j < k → gi p j ≤ 0) ∧ ∃ y : BelW V, wr = y.w
set_option maxHeartbeats 4000000 in
set_option maxRecDepth 100000 in
theorem index_any (A : Option Addr) (c : Nat) (p : List Int) (hn : p.length ≤ 9223372036854775807) (w : World) (hr : Rd w A (ints p)) :
    Calls Try.prog 42 #[.slice A p.length c, .func (.func 31) #[] #[]] w (IxPost p w) := by
  have HR := Lib.hid hr
  clear hr
  go_enter Try.func42, Try.ntmps42
  go_wp2_with fail
  go_loopw [8] (fun s8 wr => IxR w p s8 wr) (fun i _ => p.length - (intOf i).toNat)
  case atStart => exact ⟨0, by omega, rfl, Lib.hid (fun j hj => absurd hj (Nat.not_lt_zero _)), ⟨w, Below.refl _ _⟩, rfl⟩
  case round =>
    obtain ⟨k, hk, rfl, hall, y, rfl⟩ := hrel
    by_cases hlt : k < p.length
    · have i3 : decide ((k : Int) < (p.length : Int)) = true := decide_eq_true (by omega)
      obtain ⟨ad, u, rfl, hadb, e1, e2⟩ := (HR.out.bel y).at (k := k) (by rw [ints_length]; exact hlt)
      rw [ints_at hlt] at e1
      cases e1
      have j1 : (0 : Int) ≤ (k : Int) := by omega
      have j2 : (k : Int) < (p.length : Int) := by omega
      have HY := Lib.hid (show 0 < gi p k → true = anyB p from fun h => (anyB_iff.2 ⟨k, hlt, h⟩).symm)
      have HN := Lib.hid (show gi p k ≤ 0 → ∀ j, j < k + 1 → gi p j ≤ 0 from fun h j hj => by
        by_cases e : j = k
        · subst e; exact h
        · exact hall.out j (by omega))
      obtain ⟨v, hv⟩ : ∃ v, gi p k = v := ⟨_, rfl⟩
      rw [hv] at e2 HY HN
      have hB : Below w.heap.size w y.w := y.2
      have HC := Lib.hid (pos_any v y.w)
      clear hv
      by_cases v0 : 0 < v
      · have v0' : decide (0 < v) = true := decide_eq_true v0
        rw [v0'] at HC
        have hb := Lib.hid (HY.out v0)
        have hr0 : decide ((0 : Int) ≤ (k : Int)) = true := decide_eq_true (by omega)
        clear v0 HY HN
        go_wp2_with (first | (go_at_call 31; with_reducible refine HC.out.mono ?_; rintro e w' ⟨rfl, rfl⟩))
        go_ret
        exact ⟨_, rfl, by rw [← hb.out]; exact decide_eq_true (by omega), hB⟩
      · have v0' : decide (0 < v) = false := decide_eq_false v0
        rw [v0'] at HC
        have HX := Lib.hid (HN.out (by omega))
        clear v0 HY HN
        go_wp2_with (first | (go_at_call 31; with_reducible refine HC.out.mono ?_; rintro e w' ⟨rfl, rfl⟩))
        go_roundw
        case rel => exact ⟨k + 1, by omega, by go_num, HX, y, rfl⟩
        case measure => simp [intOf]; omega
    · have i3 : decide ((k : Int) < (p.length : Int)) = false := decide_eq_false (by omega)
      obtain rfl : k = p.length := by omega
      have hB : Below w.heap.size w y.w := y.2
      have HX := Lib.hid (show false = anyB p from by
        cases h : anyB p with
        | false => rfl
        | true => obtain ⟨j, hj, hp⟩ := anyB_iff.1 h; have := hall.out j hj; omega)
      clear hall
      go_wp2_with fail
      go_ret
      exact ⟨_, rfl, by rw [← HX.out]; rfl, hB⟩
set_option maxHeartbeats 4000000 in
theorem contains_any (A : Option Addr) (c : Nat) (p : List Int) (hn : p.length ≤ 9223372036854775807) (w : World) (hr : Rd w A (ints p)) :
    Calls Try.prog 30 #[.slice A p.length c, .func (.func 31) #[] #[]] w fun e w' => e = .returned (.bool (anyB p)) ∧ Below w.heap.size w w' := by
  have HC := Lib.hid (index_any A c p hn w hr)
  obtain ⟨b, hb⟩ : ∃ b, anyB p = b := ⟨_, rfl⟩
  have HB := Lib.hid hb
  rw [hb]
  clear hr hb
  go_enter Try.func30, Try.ntmps30
  go_wp2_with fail
  refine HC.out.mono ?_
  rintro e w' ⟨r, rfl, hr, hB⟩
  rw [HB.out] at hr
  have HB1 := Lib.hid hB
  clear hB
  cases b
  all_goals
    go_wp2_with fail
    go_ret
    exact ⟨rfl, HB1.out⟩

/-! what a queue that is handed back says -/
def QOk (l : List Ld) : Prop := ∀ x ∈ l, LdOk x ∧ (x.A = none → x.c = 0)
def QPost (K : List (Int × Int × List Int)) (w : World) (e : Ending) (w' : World) : Prop :=
  ∃ A c l, e = .returned (.slice A l.length c) ∧ keys l = K ∧ QOk l ∧ (A = none → c = 0) ∧ l.length ≤ c ∧ Qu w' A l ∧ Below w.heap.size w w'
noncomputable def pushK (K : List (Int × Int × List Int)) (t pl : Int) (p : List Int) : List (Int × Int × List Int) := if 0 ≤ pl ∧ anyB p = true then K ++ [(t, pl, p)] else K
theorem ldCells_one (l : List Ld) : ∀ u ∈ ldCells l, u.oneCell' = true := fun u hu => by
  unfold ldCells at hu
  obtain ⟨x, _, hx⟩ := List.mem_flatMap.1 hu
  simp only [ldc, List.mem_cons, List.not_mem_nil, or_false] at hx
  rcases hx with rfl | rfl | rfl <;> rfl
theorem ldCells_snoc (l : List Ld) (x : Ld) : ldCells (l ++ [x]) = ldCells l ++ ldc x := by simp [ldCells]
theorem keys_snoc (l : List Ld) (x : Ld) : keys (l ++ [x]) = keys l ++ [x.key] := by simp [keys]
theorem Qu.snoc {w : World} {A : Option Addr} {l : List Ld} {x : Ld} (h : Rd w A (ldCells l ++ ldc x)) (hl : ∀ y ∈ l, Rd w y.A (ints y.part)) (hx : Rd w x.A (ints x.part)) : Qu w A (l ++ [x]) :=
  ⟨by rw [ldCells_snoc]; exact h, fun y hy => by rcases List.mem_append.1 hy with h1 | h1; exact hl y h1; rw [List.mem_singleton.1 h1]; exact hx⟩
theorem QOk.snoc {l : List Ld} {x : Ld} (h : QOk l) (hx : LdOk x ∧ (x.A = none → x.c = 0)) : QOk (l ++ [x]) := fun y hy => by rcases List.mem_append.1 hy with h1 | h1; exact h y h1; rw [List.mem_singleton.1 h1]; exact hx

set_option maxHeartbeats 8000000 in
set_option maxRecDepth 100000 in
theorem push_any (A B : Option Addr) (c cb : Nat) (l : List Ld) (p : List Int) (t pl : Int) (hln : l.length ≤ 1000) (hpn : p.length ≤ 1000) (hA : A = none → c = 0) (hB : B = none → cb = 0) (hlc : l.length ≤ c) (hcm : c ≤ 9223372036854775807) (hok : QOk l)
    (ht : Fit t) (hpl : Fit pl) (hfp : ∀ i, i < p.length → Fit (gi p i)) (w : World) (hq : Qu w A l) (hp : Rd w B (ints p)) :
    Calls Try.prog 13 #[.slice A l.length c, .int .i64 t, .int .i64 pl, .slice B p.length cb] w (QPost (pushK (keys l) t pl p) w) := by
  obtain ⟨i0, hi0, hz0, hz1, hz2⟩ := info_parts info_load
  have INF := Lib.hid (And.intro hi0 (And.intro hz0 (And.intro hz1 hz2)))
  have s1 : (0 : Int) ≤ (l.length : Int) := by omega
  have s2 : (l.length : Int) ≤ (c : Int) := by omega
  have hA0 : A = none → l = [] := fun h => by
    cases l with
    | nil => rfl
    | cons x l => obtain ⟨ad, e, _⟩ := hq.rd (by rw [ldCells_length]; simp); rw [h] at e; cases e
  have HA := Lib.hid (And.intro hA hA0)
  have HQ := Lib.hid hq
  have HP := Lib.hid hp
  have HO := Lib.hid hok
  have HF := Lib.hid (And.intro ht (And.intro hpl hfp))
  have HAA := Lib.hid (show A = none → l.length = 0 from fun h => by rw [hA0 h]; rfl)
  have C1 := Lib.hid (contains_any B cb p (by omega) w hp)
  have HBn := Lib.hid hB
  clear hA hA0 hB hq hp hok ht hpl hfp hi0 hz0 hz1 hz2
  have HNO := Lib.hid (show ∀ w', Below w.heap.size w w' → pushK (keys l) t pl p = keys l → QPost (pushK (keys l) t pl p) w (.returned (.slice A l.length l.length)) w' from fun w' hb e => ⟨A, l.length, l, rfl, e.symm, HO.out, fun h => HAA.out h, Nat.le_refl _, HQ.out.below (Nat.le_refl _) hb, hb⟩)
  obtain ⟨K, hK⟩ : ∃ K, pushK (keys l) t pl p = K := ⟨_, rfl⟩
  rw [hK] at HNO ⊢
  by_cases h0 : pl < 0
  · have t0 : decide (pl < 0) = true := decide_eq_true h0
    have HX := Lib.hid (HNO.out w (Below.refl _ _) (by rw [← hK]; unfold pushK; rw [if_neg (by omega)]))
    clear HNO hK h0 C1
    go_enter Try.func13, Try.ntmps13
    go_wp2_with fail
    go_ret
    exact HX.out
  have t0 : decide (pl < 0) = false := decide_eq_false h0
  cases hb : anyB p
  · rw [hb] at C1
    have HX := Lib.hid (fun w' h => HNO.out w' h (by rw [← hK]; unfold pushK; rw [if_neg (fun h => by rw [hb] at h; exact absurd h.2 Bool.false_ne_true)]))
    clear HNO hK h0 hb
    go_enter Try.func13, Try.ntmps13
    go_upto_region 3 with (first | (go_at_call 30; with_reducible refine C1.out.mono ?_; rintro e w1 ⟨rfl, hb1⟩))
    have HB1 := Lib.hid hb1
    clear hb1
    go_wp2_with fail
    go_ret
    exact HX.out _ HB1.out
  · rw [hb] at C1
    have HKK := Lib.hid (show keys l ++ [(t, pl, p)] = K by rw [← hK]; unfold pushK; rw [if_pos ⟨by omega, hb⟩])
    clear HNO hK h0 hb
    go_enter Try.func13, Try.ntmps13
    go_upto_region 4 with (first | (go_at_call 30; with_reducible refine C1.out.mono ?_; rintro e w1 ⟨rfl, hb1⟩))
    have HB1 := Lib.hid hb1
    have HCl := Lib.hid (clone_any B cb p p.length rfl HBn.out (by omega) w1 (HP.out.below (Nat.le_refl _) hb1))
    clear hb1 C1
    go_wp2_with fail
    refine HCl.out.mono ?_
    rintro e w2 ⟨A2, c2, rfl, hA2, hc2, _, hr2, hb2⟩
    have HB2 := Lib.hid (below_next HB1.out hb2)
    have HR2 := Lib.hid (And.intro hA2 hr2)
    clear hA2 hc2 hr2 hb2 HCl
    go_wp2_with (first | (at_builtin; refine wpList_append_grows _ rfl _ _ _ (by rfl) 53 i0 _ 3 40 Try.underlying32 INF.out.1 INF.out.2.1 INF.out.2.2.1 INF.out.2.2.2 rfl (by omega) A l.length l.length (ldCells l) (by rfl) (fun h => ⟨HAA.out h, HAA.out h⟩) (ldCells_length l) ((HQ.out.rd.below (Nat.le_refl _) HB2.out).alloc _).holds ⟨w2.heap.size, 0, none⟩ 1 1 [.int .i64 t, .int .i64 pl, .slice A2 p.length c2] (by rfl) (by rfl) (World.news_of_block (heap_alloc_new _ _)) (by simp [Value.oneCell']) (by omega) (by unfold maxLen; omega) (by omega) ?_))
    intro v w3 hown hgrow
    have hb3 : Below w.heap.size w w3 := below_grown (bel_alloc HB2.out _) hgrow (fun k hk => by cases hk)
    have hb23 : Below w2.heap.size w2 w3 := below_grown (bel_alloc (Below.refl _ _) _) hgrow (fun k hk => by cases hk)
    obtain ⟨g, cap, rfl, hcap, _, _, _, hrd⟩ := own_rd2 hown (by omega)
    have hfin : QPost K w (.returned (.slice (some ⟨g, 0, none⟩) (l.length + 1) cap)) w3 := by
      refine ⟨some ⟨g, 0, none⟩, cap, l ++ [⟨t, pl, A2, c2, p⟩], by simp, by rw [keys_snoc, ← HKK.out]; rfl, HO.out.snoc ⟨⟨HF.out.1, HF.out.2.1, by show p.length ≤ maxLen; unfold maxLen; omega, HF.out.2.2⟩, HR2.out.1⟩, (fun h => by cases h), by simpa using hcap, ?_, hb3⟩
      exact Qu.snoc hrd (fun y hy => (HQ.out.parts y hy).below (Nat.le_refl _) hb3) (HR2.out.2.below (Nat.le_refl _) hb23)
    have HX := Lib.hid hfin
    clear hown hgrow hb3 hb23 hrd hfin
    go_wp2_with fail
    go_ret
    exact HX.out

/-! the reference -/
def PuR (V : World) (p : List Int) (s9 s10 : Value) (wr : World) : Prop := ∃ (k : Nat) (b : Bool), k ≤ p.length ∧ s10 = .int .i64 (k : Int) ∧ s9 = .bool b ∧ Hid (b = true ↔ ∃ j, j < k ∧ 0 < gi p j) ∧ ∃ y : BelW V, wr = y.w
set_option maxHeartbeats 16000000 in
set_option maxRecDepth 100000 in
theorem refpush_any (A B : Option Addr) (c cb : Nat) (l : List Ld) (p : List Int) (t pl : Int) (hln : l.length ≤ 1000) (hpn : p.length ≤ 1000) (hA : A = none → c = 0) (hB : B = none → cb = 0) (hlc : l.length ≤ c) (hok : QOk l)
    (ht : Fit t) (hpl : Fit pl) (hfp : ∀ i, i < p.length → Fit (gi p i)) (w : World) (hq : Qu w A l) (hp : Rd w B (ints p)) :
    Calls Try.prog 14 #[.slice A l.length c, .int .i64 t, .int .i64 pl, .slice B p.length cb] w (QPost (pushK (keys l) t pl p) w) := by
  obtain ⟨i0, hi0, hz0, hz1, hz2⟩ := info_parts info_load
  have INF := Lib.hid (And.intro hi0 (And.intro hz0 (And.intro hz1 hz2)))
  have HA := Lib.hid hA
  have HBn := Lib.hid hB
  have HQ := Lib.hid hq
  have HP := Lib.hid hp
  have HO := Lib.hid hok
  have HF := Lib.hid (And.intro ht (And.intro hpl hfp))
  clear hA hB hq hp hok ht hpl hfp hi0 hz0 hz1 hz2
  have HNO := Lib.hid (show ∀ w', Below w.heap.size w w' → pushK (keys l) t pl p = keys l → QPost (pushK (keys l) t pl p) w (.returned (.slice A l.length c)) w' from fun w' hb e => ⟨A, c, l, rfl, e.symm, HO.out, HA.out, hlc, HQ.out.below (Nat.le_refl _) hb, hb⟩)
  have HAN := Lib.hid (show ∀ b : Bool, (b = true ↔ ∃ j, j < p.length ∧ 0 < gi p j) → anyB p = b from fun b h => by rw [Bool.eq_iff_iff, h, anyB_iff]; rfl)
  obtain ⟨K, hK⟩ : ∃ K, pushK (keys l) t pl p = K := ⟨_, rfl⟩
  rw [hK] at HNO ⊢
  have HK := Lib.hid hK
  clear hK
  go_enter Try.func14, Try.ntmps14
  go_wp2_with fail
  go_loopw [9, 10] (fun s9 s10 wr => PuR w p s9 s10 wr) (fun _ i _ => p.length - (intOf i).toNat)
  case atStart => exact ⟨0, false, by omega, rfl, rfl, Lib.hid ⟨fun h => absurd h Bool.false_ne_true, fun ⟨j, hj, _⟩ => absurd hj (Nat.not_lt_zero _)⟩, ⟨w, Below.refl _ _⟩, rfl⟩
  case round =>
    obtain ⟨k, b, hk, rfl, rfl, hsome, y, rfl⟩ := hrel
    by_cases hlt : k < p.length
    · have i3 : decide ((k : Int) < (p.length : Int)) = true := decide_eq_true (by omega)
      obtain ⟨ad, u, rfl, hadb, e1, e2⟩ := (HP.out.bel y).at (k := k) (by rw [ints_length]; exact hlt)
      rw [ints_at hlt] at e1
      cases e1
      have j1 : (0 : Int) ≤ (k : Int) := by omega
      have j2 : (k : Int) < (p.length : Int) := by omega
      have HX := Lib.hid (show (b || decide (0 < gi p k)) = true ↔ ∃ j, j < k + 1 ∧ 0 < gi p j by
        rw [Bool.or_eq_true, hsome.out, decide_eq_true_iff]
        constructor
        · rintro (⟨j, hj, h⟩ | h)
          · exact ⟨j, by omega, h⟩
          · exact ⟨k, by omega, h⟩
        · rintro ⟨j, hj, h⟩
          by_cases e : j = k
          · subst e; exact .inr h
          · exact .inl ⟨j, by omega, h⟩)
      obtain ⟨v, hv⟩ : ∃ v, gi p k = v := ⟨_, rfl⟩
      rw [hv] at e2 HX
      clear hv hsome
      cases b
      all_goals
        go_wp2_with fail
        go_roundw
        case rel => exact ⟨k + 1, _, by omega, by go_num, rfl, HX, y, rfl⟩
        case measure => simp [intOf]; omega
    · have i3 : decide ((k : Int) < (p.length : Int)) = false := decide_eq_false (by omega)
      obtain rfl : k = p.length := by omega
      have hB : Below w.heap.size w y.w := y.2
      have HB := Lib.hid hB
      have HAB := Lib.hid (HAN.out b hsome.out)
      clear hsome hB
      by_cases h0 : pl < 0
      · have t0 : decide (pl < 0) = true := decide_eq_true h0
        have HX := Lib.hid (HNO.out y.w HB.out (by rw [← HK.out]; unfold pushK; rw [if_neg (by omega)]))
        clear h0
        go_wp2_with fail
        go_ret
        exact HX.out
      have t0 : decide (pl < 0) = false := decide_eq_false h0
      cases b
      · have HX := Lib.hid (HNO.out y.w HB.out (by rw [← HK.out]; unfold pushK; rw [if_neg (fun h => by rw [HAB.out] at h; exact absurd h.2 Bool.false_ne_true)]))
        clear h0
        go_wp2_with fail
        go_ret
        exact HX.out
      · have HKK := Lib.hid (show keys l ++ [(t, pl, p)] = K by rw [← HK.out]; unfold pushK; rw [if_pos ⟨by omega, HAB.out⟩])
        clear h0
        go_upto_region 8 with fail
        go_wp2_with (first | (at_builtin; refine wpList_append_rd _ rfl (.tmp 32) (.tmp 33) _ (by rfl) w.heap.size 53 i0 _ 3 40 Try.underlying32 INF.out.1 INF.out.2.1 INF.out.2.2.1 INF.out.2.2.2 rfl (by omega) _ 0 [] (by rfl) (own_empty _ _ HB.out.size) A l.length c (ldCells l) (by rfl) HA.out (ldCells_length l) ((HQ.out.rd.below (Nat.le_refl _) HB.out).alloc _) (ldCells_one l) (by unfold maxLen; omega) (by omega) (by have := HB.out.size; simp; omega) ?_))
        intro v w3 hown hgrow hat
        have hb3 : Below w.heap.size w w3 := (bel_alloc HB.out _).grown hgrow (bel_alloc HB.out _).size (fun k hk => by have := HB.out.size; simp [Value.ownBlock] at hk; omega)
        have HO3 := Lib.hid hown
        have HB3 := Lib.hid hb3
        clear hown hgrow hat hb3
        go_wp2_with (first | (at_builtin; refine wpList_append_lies _ rfl (.tmp 34) (.tmp 39) _ (by rfl) w.heap.size 53 i0 _ 3 40 Try.underlying32 INF.out.1 INF.out.2.1 INF.out.2.2.1 INF.out.2.2.2 rfl (by omega) _ l.length _ (by rfl) (HO3.out.alloc _) ⟨w3.heap.size, 0, none⟩ 1 1 [.int .i64 t, .int .i64 pl, .slice B p.length cb] (by rfl) (by rfl) (World.news_of_block (heap_alloc_new _ _)) (by simp [Value.oneCell']) (by omega) (by unfold maxLen; omega) (by omega) (by have := HB3.out.size; simp; omega) (w3.heap.size + 1) (by simp) ?_))
        intro g cap w4 hown hgrow hat hlg
        have hb4 : Below w.heap.size w w4 := (bel_alloc HB3.out _).grown hgrow (bel_alloc HB3.out _).size (fun i hi => (HO3.out.lt i hi).1)
        obtain ⟨g', cap', e', hcap, _, _, _, hrd⟩ := own_rd2 hown (by omega)
        cases e'
        have hfin : QPost K w (.returned (.slice (some ⟨g, 0, none⟩) (l.length + 1) cap)) w4 := by
          refine ⟨some ⟨g, 0, none⟩, cap, l ++ [⟨t, pl, B, cb, p⟩], by simp, by rw [keys_snoc, ← HKK.out]; rfl, HO.out.snoc ⟨⟨HF.out.1, HF.out.2.1, by show p.length ≤ maxLen; unfold maxLen; omega, HF.out.2.2⟩, HBn.out⟩, (fun h => by cases h), by simpa using hcap, ?_, hb4⟩
          exact Qu.snoc (by simpa [ldc] using hrd) (fun y hy => (HQ.out.parts y hy).below (Nat.le_refl _) hb4) (HP.out.below (Nat.le_refl _) hb4)
        have HX := Lib.hid hfin
        clear hown hgrow hb4 hrd hfin hat
        go_wp2_with fail
        go_ret
        exact HX.out

end Go.Proofs.Ythbjechgdjcogaa
