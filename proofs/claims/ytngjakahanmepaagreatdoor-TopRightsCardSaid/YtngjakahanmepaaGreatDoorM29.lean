/- Part 29 of the proof of TopRights: basin.rightPlaces. -/
import Derived.Test.YtngjakahanmepaaGreatDoorM28
namespace Go.Proofs.YtngjakahanmepaaGreatDoor
open Go.RowKit
set_option linter.unusedVariables false
set_option linter.unusedSimpArgs false
/-- a row of rain: the indices rise, below the number of cells; the areas are volumes -/
def rainGo (cells : Int) : Int → List Sp → Bool
  | _, [] => true
  | last, c :: r => !decide (c.1 ≤ last) && !decide (cells ≤ c.1) && volB c.2 && rainGo cells c.1 r
noncomputable def placeB (n on : Nat) (cells : Int) (i : Nat) (x : Pl) : Bool :=
  inB x.kind 0 3 && inB x.office 0 2 && inB x.delay 0 240 && volB x.cap && volB x.floor && rightB x.level && decide (x.start.length = on) && fracB x.num x.den && targB n (i : Int) x.down && x.start.all volB && rainGo cells (-1) x.rain
noncomputable def placeGo (n on : Nat) (cells : Int) : Nat → List Pl → Bool
  | _, [] => true
  | i, x :: r => placeB n on cells i x && placeGo n on cells (i + 1) r
def sumW (s : Int) (l : List Int) : Int := l.foldl (fun a b => IntKind.i64.wrap (a + b)) s
def sumP (ps : List Pl) : Int := ps.foldl (fun s p => sumW s p.start) 0
noncomputable def placesB (on : Nat) (cells : Int) (ps : List Pl) : Bool := placeGo ps.length on cells 0 ps && decide (sumP ps ≤ 1125899906842624)
theorem placeGo_bad {n on : Nat} {cells : Int} : ∀ {l : List Pl} {i k : Nat} (hk : k < l.length), placeB n on cells (i + k) l[k] = false → placeGo n on cells i l = false
  | x :: r, i, 0, _, h => by
    unfold placeGo
    have h' : placeB n on cells i x = false := h
    rw [h']; rfl
  | x :: r, i, k + 1, hk, h => by
    unfold placeGo
    rw [placeGo_bad (l := r) (i := i + 1) (k := k) (by simpa using hk) (by rw [show i + 1 + k = i + (k + 1) by omega]; exact h), Bool.and_false]
theorem placeGo_all {n on : Nat} {cells : Int} : ∀ {l : List Pl} {i : Nat}, (∀ k (hk : k < l.length), placeB n on cells (i + k) l[k] = true) → placeGo n on cells i l = true
  | [], _, _ => rfl
  | x :: r, i, h => by
    unfold placeGo
    have h0 : placeB n on cells i x = true := h 0 (by simp)
    rw [h0, placeGo_all (l := r) (i := i + 1) (fun k hk => by
      have := h (k + 1) (by simpa using hk)
      rw [show i + 1 + k = i + (k + 1) by omega]
      exact this)]
    rfl
theorem placeGo_get {n on : Nat} {cells : Int} {l : List Pl} {i k : Nat} (hk : k < l.length) (h : placeGo n on cells i l = true) : placeB n on cells (i + k) l[k] = true := by
  cases hb : placeB n on cells (i + k) l[k]
  · rw [placeGo_bad hk hb] at h; cases h
  · rfl
/-- how far a row of rain is looked at -/
def lastR (l : List Sp) : Nat → Int
  | 0 => -1
  | k + 1 => (gs l k).1
theorem rainGo_bad {cells : Int} : ∀ {l : List Sp} {last : Int} {k : Nat} (hk : k < l.length), (decide ((gs l k).1 ≤ (if k = 0 then last else (gs l (k - 1)).1)) = true ∨ decide (cells ≤ (gs l k).1) = true ∨ volB (gs l k).2 = false) → rainGo cells last l = false
  | c :: r, last, 0, _, h => by
    unfold rainGo
    have e : gs (c :: r) 0 = c := by simp [gs]
    rw [e, if_pos rfl] at h
    rcases h with h | h | h <;> rw [h] <;> simp
  | c :: r, last, k + 1, hk, h => by
    unfold rainGo
    rw [rainGo_bad (l := r) (last := c.1) (k := k) (by simpa using hk), Bool.and_false]
    have e : gs (c :: r) (k + 1) = gs r k := by simp [gs]
    rw [e, if_neg (by omega)] at h
    have e2 : (gs (c :: r) (k + 1 - 1)).1 = (if k = 0 then c.1 else (gs r (k - 1)).1) := by
      rcases Nat.eq_zero_or_pos k with rfl | hp
      · simp [gs]
      · rw [if_neg (by omega), show k + 1 - 1 = (k - 1) + 1 by omega]; simp [gs]
    rw [e2] at h
    exact h
theorem rainGo_all {cells : Int} : ∀ {l : List Sp} {last : Int}, (∀ k, k < l.length → decide ((gs l k).1 ≤ (if k = 0 then last else (gs l (k - 1)).1)) = false ∧ decide (cells ≤ (gs l k).1) = false ∧ volB (gs l k).2 = true) → rainGo cells last l = true
  | [], _, _ => rfl
  | c :: r, last, h => by
    unfold rainGo
    have h0 := h 0 (by simp)
    have e : gs (c :: r) 0 = c := by simp [gs]
    rw [e, if_pos rfl] at h0
    rw [h0.1, h0.2.1, h0.2.2, rainGo_all (l := r) (last := c.1) (fun k hk => by
      have h1 := h (k + 1) (by simpa using hk)
      have e : gs (c :: r) (k + 1) = gs r k := by simp [gs]
      rw [e, if_neg (by omega)] at h1
      have e2 : (gs (c :: r) (k + 1 - 1)).1 = (if k = 0 then c.1 else (gs r (k - 1)).1) := by
        rcases Nat.eq_zero_or_pos k with rfl | hp
        · simp [gs]
        · rw [if_neg (by omega), show k + 1 - 1 = (k - 1) + 1 by omega]; simp [gs]
      rw [e2] at h1
      exact h1)]
    rfl
theorem lastR_is (l : List Sp) (k : Nat) : lastR l k = (if k = 0 then -1 else (gs l (k - 1)).1) := by
  cases k with
  | zero => rfl
  | succ k => rw [if_neg (by omega)]; rfl
/-- the loop over a row of rain -/
structure RnOk (cells : Int) (l : List Sp) (k : Nat) : Prop where
  low : decide ((gs l k).1 ≤ lastR l k) = false
  high : decide (cells ≤ (gs l k).1) = false
  vol : volB (gs l k).2 = true
def PlaO (V : World) (n on : Nat) (cells : Int) (ps : List Pl) (s3 s14 : Value) (wr : World) : Prop := ∃ k : Nat, ∃ s : Int, k ≤ ps.length ∧ s14 = .int .i64 (k : Int) ∧ s3 = .int .i64 s ∧ Hid ((∀ j (hj : j < ps.length), j < k → placeB n on cells j ps[j] = true) ∧ s = (ps.take k).foldl (fun s p => sumW s p.start) 0) ∧ ∃ y : BelW V, wr = y.w
def PlaS (V : World) (l : List Int) (s0 : Int) (s3 s81 : Value) (wr : World) : Prop := ∃ k : Nat, ∃ s : Int, k ≤ l.length ∧ s81 = .int .i64 (k : Int) ∧ s3 = .int .i64 s ∧ Hid ((l.take k).all volB = true ∧ s = sumW s0 (l.take k)) ∧ ∃ y : BelW V, wr = y.w
def PlaR (V : World) (cells : Int) (l : List Sp) (s8 s95 : Value) (wr : World) : Prop := ∃ k : Nat, ∃ t : Int, k ≤ l.length ∧ s95 = .int .i64 (k : Int) ∧ s8 = .int .i64 t ∧ Hid (t = lastR l k ∧ ∀ j, j < k → RnOk cells l j) ∧ ∃ y : BelW V, wr = y.w
theorem sumW_step {l : List Int} {k : Nat} (hk : k < l.length) {s0 s n : Int} (hs : s = sumW s0 (l.take k)) (hn : l[k] = n) : IntKind.i64.wrap (s + n) = sumW s0 (l.take (k + 1)) := by
  unfold sumW at hs ⊢
  rw [foldl_take _ _ hk, ← hs, hn]
set_option maxHeartbeats 64000000 in
set_option maxRecDepth 100000 in
theorem places_is (d0 d4 d5 d6 d7 d8 d9 d10 : Value) (OA B : Option Addr) (on oc cb : Nat) (cells : Int) (ps : List Pl) (hn : ps.length ≤ 1000) (hon : on ≤ 1000)
    (hpl : ∀ p ∈ ps, p.level.length ≤ 9223372036854775807 ∧ p.start.length ≤ 9223372036854775807 ∧ p.rain.length ≤ 9223372036854775807) (w : World) (hp : Pls w B ps) :
    Calls Tryz.prog 37 #[.agg #[d0, .slice OA on oc, .int .i64 cells, .slice B ps.length cb, d4, d5, d6, d7, d8, d9, d10]] w fun e w' => e = .returned (.bool (placesB on cells ps)) ∧ Below w.heap.size w w' := by
  have HBD := Lib.hid (fun (k : Nat) (hk : k < ps.length) (h : placeB ps.length on cells k ps[k] = false) => (show placesB on cells ps = false by unfold placesB; rw [placeGo_bad (i := 0) hk (by rw [Nat.zero_add]; exact h)]; rfl))
  have HGO := Lib.hid (fun (h : ∀ j (hj : j < ps.length), j < ps.length → placeB ps.length on cells j ps[j] = true) (s : Int) (hs : s = (ps.take ps.length).foldl (fun s p => sumW s p.start) 0) => (show placesB on cells ps = decide (s ≤ 1125899906842624) by
    unfold placesB
    rw [placeGo_all (fun k hk => by rw [Nat.zero_add]; exact h k hk hk), hs, List.take_length, Bool.true_and]
    rfl))
  obtain ⟨R, hR⟩ : ∃ b, placesB on cells ps = b := ⟨_, rfl⟩
  rw [hR] at HBD HGO ⊢
  clear hR
  go_enter Tryz.func37, Tryz.ntmps37
  go_upto_region 1 with fail
  refine wp_rebase _ (fun V hV x0 => ?_)
  have HB0 := Lib.hid (show Below w.heap.size w V by rw [hV]; exact bel_alloc (Below.refl _ _) _)
  have HBB := Lib.hid (show V.rangeAt w.heap.size 0 [d0, .slice OA on oc, .int .i64 cells, .slice B ps.length cb, d4, d5, d6, d7, d8, d9, d10] by rw [hV]; exact range_new _ _ [d0, .slice OA on oc, .int .i64 cells, .slice B ps.length cb, d4, d5, d6, d7, d8, d9, d10])
  have HP := Lib.hid (hp.below (Nat.le_refl _) HB0.out)
  have HPL := Lib.hid hpl
  clear hV hp hpl
  have b3 := fun z : BelW V => (show z.w.cell? ⟨w.heap.size, 3, none⟩ = some (.slice B ps.length cb) from BelW.range HBB.out z 3 _ rfl)
  have HG := Lib.hid (fun z : BelW V => (show Below w.heap.size w z.w from below_next HB0.out z.2))
  go_wp2_with fail
  go_loopw [3, 14] (fun s3 s14 wr => PlaO V ps.length on cells ps s3 s14 wr) (fun _ i _ => ps.length - (intOf i).toNat)
  case atStart => exact ⟨0, 0, by omega, rfl, rfl, Lib.hid ⟨fun j _ h => absurd h (Nat.not_lt_zero _), rfl⟩, x0, rfl⟩
  case round =>
    obtain ⟨k, s, hk, rfl, rfl, hal, y, rfl⟩ := hrel
    have HAL := Lib.hid hal.out
    clear hal
    by_cases hlt : k < ps.length
    case neg =>
      have i4 : decide ((k : Int) < (ps.length : Int)) = false := decide_eq_false (by omega)
      obtain rfl : k = ps.length := by omega
      have hr := HGO.out HAL.out.1 s HAL.out.2
      clear HAL HGO HBD
      subst hr
      go_wp2_with fail
      go_ret
      exact ⟨rfl, HG.out y⟩
    have i4 : decide ((k : Int) < (ps.length : Int)) = true := decide_eq_true (by omega)
    have j1 : (0 : Int) ≤ (k : Int) := by omega
    have j2 : (k : Int) < (ps.length : Int) := by omega
    obtain ⟨rd, rb0, ro, rfl, hbs, hE, hrt⟩ := (HP.out.below (Nat.le_refl _) y.2).at hlt
    rw [pl_at hlt] at hrt
    have HBK := Lib.hid (HBD.out k hlt)
    have HNX := Lib.hid (fun (h : placeB ps.length on cells k ps[k] = true) (t : Int) (ht : t = sumW s ps[k].start) => (show (∀ j (hj : j < ps.length), j < k + 1 → placeB ps.length on cells j ps[j] = true) ∧ t = (ps.take (k + 1)).foldl (fun s p => sumW s p.start) 0 from
      ⟨fun j hj hjk => by
        by_cases e : j = k
        · subst e; exact h
        · exact HAL.out.1 j hj (by omega), by rw [foldl_take _ _ hlt, ← HAL.out.2]; exact ht⟩))
    have hok := HPL.out _ (List.getElem_mem hlt)
    have HXR := Lib.hid (And.intro (HP.out.lev _ (List.getElem_mem hlt)) (And.intro (HP.out.sta _ (List.getElem_mem hlt)) (HP.out.rai _ (List.getElem_mem hlt))))
    obtain ⟨X, hX⟩ : ∃ X, ps[k] = X := ⟨_, rfl⟩
    rw [hX] at hrt HNX HBK hok HXR
    clear hX hbs
    obtain ⟨nm, kind, office, cap, LVA, lvc, level, SA, sc, start, num, den, down, delay, floor, RA, rc, rain⟩ := X
    obtain ⟨hl1, hl2, hl3⟩ := hok
    simp only at hl1 hl2 hl3
    have HRG := Lib.hid (show y.w.rangeAt rb0 ro [.string nm, .int .i64 kind, .int .i64 office, .int .i64 cap, .slice LVA level.length lvc, .slice SA start.length sc, .int .i64 num, .int .i64 den, .int .i64 down, .int .i64 delay, .int .i64 floor, .slice RA rain.length rc] from hrt)
    clear hrt
    go_upto_region 5 with (first
      | (with_reducible refine wpList_load_g 90 _ (by with_reducible rfl) rb0 ro (by with_unfolding_all rfl) (by with_unfolding_all rfl) _ _ HRG.out Tryz.underlying90 (by with_unfolding_all rfl) (by kernel_rfl) ?_)
      | (with_reducible refine wpList_store_new (z := [.string ⟨#[]⟩, .int .i64 0, .int .i64 0, .int .i64 0, .slice none 0 0, .slice none 0 0, .int .i64 0, .int .i64 0, .int .i64 0, .int .i64 0, .int .i64 0, .slice none 0 0]) (cs := [.string nm, .int .i64 kind, .int .i64 office, .int .i64 cap, .slice LVA level.length lvc, .slice SA start.length sc, .int .i64 num, .int .i64 den, .int .i64 down, .int .i64 delay, .int .i64 floor, .slice RA rain.length rc]) 90 _ _ (by with_reducible rfl) (by with_unfolding_all rfl) y.w.heap.size (by with_reducible rfl) _ (by with_unfolding_all rfl) (by with_unfolding_all rfl) (by with_unfolding_all rfl) (by kernel_rfl) (by with_unfolding_all rfl) ?_))
    refine wp_rebase _ (fun X hX x1 => ?_)
    have hbX : Below y.w.heap.size y.w X := by rw [hX]; exact bel_alloc (Below.refl _ _) _
    have HUP := Lib.hid (fun z : BelW X => (show Below V.heap.size V z.w from below_next (below_next y.2 hbX) z.2))
    have HN := Lib.hid (show X.rangeAt y.w.heap.size 0 [.string nm, .int .i64 kind, .int .i64 office, .int .i64 cap, .slice LVA level.length lvc, .slice SA start.length sc, .int .i64 num, .int .i64 den, .int .i64 down, .int .i64 delay, .int .i64 floor, .slice RA rain.length rc] by rw [hX]; exact range_new y.w 90 [.string nm, .int .i64 kind, .int .i64 office, .int .i64 cap, .slice LVA level.length lvc, .slice SA start.length sc, .int .i64 num, .int .i64 den, .int .i64 down, .int .i64 delay, .int .i64 floor, .slice RA rain.length rc])
    obtain ⟨nb, hnb⟩ : ∃ n, y.w.heap.size = n := ⟨_, rfl⟩
    rw [hnb] at HN ⊢
    have HBX := Lib.hid (range_bel HBB.out ⟨X, HUP.out ⟨X, Below.refl _ _⟩⟩)
    have HXL := Lib.hid (fun z : BelW X => (show Rd z.w LVA (spCells level) from HXR.out.1.below (Nat.le_refl _) (HUP.out z)))
    have HXS := Lib.hid (fun z : BelW X => (show Rd z.w SA (ints start) from HXR.out.2.1.below (Nat.le_refl _) (HUP.out z)))
    have HXQ := Lib.hid (fun z : BelW X => (show Rd z.w RA (spCells rain) from HXR.out.2.2.below (Nat.le_refl _) (HUP.out z)))
    have b1 := fun z : BelW X => (show z.w.cell? ⟨w.heap.size, 1, none⟩ = some (.slice OA on oc) from BelW.range HBX.out z 1 _ rfl)
    have b2 := fun z : BelW X => (show z.w.cell? ⟨w.heap.size, 2, none⟩ = some (.int .i64 cells) from BelW.range HBX.out z 2 _ rfl)
    clear hX hnb hbX HRG hE HAL HBD HGO HXR
    have n1 := fun z : BelW X => (show z.w.cell? ⟨nb, 1, none⟩ = some (.int .i64 kind) from BelW.range HN.out z 1 _ rfl)
    have n2 := fun z : BelW X => (show z.w.cell? ⟨nb, 2, none⟩ = some (.int .i64 office) from BelW.range HN.out z 2 _ rfl)
    have n3 := fun z : BelW X => (show z.w.cell? ⟨nb, 3, none⟩ = some (.int .i64 cap) from BelW.range HN.out z 3 _ rfl)
    have n4 := fun z : BelW X => (show z.w.cell? ⟨nb, 4, none⟩ = some (.slice LVA level.length lvc) from BelW.range HN.out z 4 _ rfl)
    have n5 := fun z : BelW X => (show z.w.cell? ⟨nb, 5, none⟩ = some (.slice SA start.length sc) from BelW.range HN.out z 5 _ rfl)
    have n6 := fun z : BelW X => (show z.w.cell? ⟨nb, 6, none⟩ = some (.int .i64 num) from BelW.range HN.out z 6 _ rfl)
    have n7 := fun z : BelW X => (show z.w.cell? ⟨nb, 7, none⟩ = some (.int .i64 den) from BelW.range HN.out z 7 _ rfl)
    have n8 := fun z : BelW X => (show z.w.cell? ⟨nb, 8, none⟩ = some (.int .i64 down) from BelW.range HN.out z 8 _ rfl)
    have n9 := fun z : BelW X => (show z.w.cell? ⟨nb, 9, none⟩ = some (.int .i64 delay) from BelW.range HN.out z 9 _ rfl)
    have n10 := fun z : BelW X => (show z.w.cell? ⟨nb, 10, none⟩ = some (.int .i64 floor) from BelW.range HN.out z 10 _ rfl)
    have n11 := fun z : BelW X => (show z.w.cell? ⟨nb, 11, none⟩ = some (.slice RA rain.length rc) from BelW.range HN.out z 11 _ rfl)
    have CI := Lib.hid (fun (z : BelW X) (n lo hi : Int) (b : Bool) (h : inB n lo hi = b) => bel_of (x := z) (in_cal h z.w))
    have CV := Lib.hid (fun (z : BelW X) (n : Int) (b : Bool) (h : volB n = b) => bel_of (x := z) (show Calls Tryz.prog 75 #[.int .i64 n] z.w fun e w' => e = .returned (.bool b) ∧ Below z.w.heap.size z.w w' from h ▸ volume_is n z.w))
    have CR := Lib.hid (fun (z : BelW X) (b : Bool) (h : rightB level = b) => bel_of (x := z) (show Calls Tryz.prog 78 #[.slice LVA level.length lvc] z.w fun e w' => e = .returned (.bool b) ∧ Below z.w.heap.size z.w w' from h ▸ right_is LVA lvc level hl1 z.w (HXL.out z)))
    have CF := Lib.hid (fun (z : BelW X) (b : Bool) (h : fracB num den = b) => bel_of (x := z) (show Calls Tryz.prog 79 #[.int .i64 num, .int .i64 den] z.w fun e w' => e = .returned (.bool b) ∧ Below z.w.heap.size z.w w' from h ▸ fraction_is num den z.w))
    have CT := Lib.hid (fun (z : BelW X) (b : Bool) (h : targB ps.length (k : Int) down = b) => bel_of (x := z) (show Calls Tryz.prog 80 #[.agg #[d0, .slice OA on oc, .int .i64 cells, .slice (some rd) ps.length cb, d4, d5, d6, d7, d8, d9, d10], .int .i64 (k : Int), .int .i64 down] z.w fun e w' => e = .returned (.bool b) ∧ Below z.w.heap.size z.w w' from h ▸ target_is d0 (.slice OA on oc) (.int .i64 cells) d4 d5 d6 d7 d8 d9 d10 (some rd) ps.length cb (by omega) (k : Int) down z.w))
    cases q1 : inB kind 0 3
    case false => (have hr := HBK.out (by simp [placeB, *]); subst hr; go_wp2_with (first | (with_reducible refine wpList_load_g 31 _ (by with_reducible rfl) _ _ (by with_unfolding_all rfl) (by with_unfolding_all rfl) _ _ (BelW.range HBX.out _) Tryz.underlying31 (by with_unfolding_all rfl) (by kernel_rfl) ?_) | (go_at_call 74; (with_reducible refine (CI.out _ _ _ _ _ (by assumption)).mono ?_); rintro e w1 ⟨rfl, z, rfl⟩) | (go_at_call 75; (with_reducible refine (CV.out _ _ _ (by assumption)).mono ?_); rintro e w1 ⟨rfl, z, rfl⟩) | (go_at_call 78; (with_reducible refine (CR.out _ _ (by assumption)).mono ?_); rintro e w1 ⟨rfl, z, rfl⟩) | (go_at_call 79; (with_reducible refine (CF.out _ _ (by assumption)).mono ?_); rintro e w1 ⟨rfl, z, rfl⟩) | (go_at_call 80; (with_reducible refine (CT.out _ _ (by assumption)).mono ?_); rintro e w1 ⟨rfl, z, rfl⟩)); go_ret; exact ⟨rfl, HG.out ⟨_, HUP.out _⟩⟩)
    cases q2 : inB office 0 2
    case false => (have hr := HBK.out (by simp [placeB, *]); subst hr; go_wp2_with (first | (with_reducible refine wpList_load_g 31 _ (by with_reducible rfl) _ _ (by with_unfolding_all rfl) (by with_unfolding_all rfl) _ _ (BelW.range HBX.out _) Tryz.underlying31 (by with_unfolding_all rfl) (by kernel_rfl) ?_) | (go_at_call 74; (with_reducible refine (CI.out _ _ _ _ _ (by assumption)).mono ?_); rintro e w1 ⟨rfl, z, rfl⟩) | (go_at_call 75; (with_reducible refine (CV.out _ _ _ (by assumption)).mono ?_); rintro e w1 ⟨rfl, z, rfl⟩) | (go_at_call 78; (with_reducible refine (CR.out _ _ (by assumption)).mono ?_); rintro e w1 ⟨rfl, z, rfl⟩) | (go_at_call 79; (with_reducible refine (CF.out _ _ (by assumption)).mono ?_); rintro e w1 ⟨rfl, z, rfl⟩) | (go_at_call 80; (with_reducible refine (CT.out _ _ (by assumption)).mono ?_); rintro e w1 ⟨rfl, z, rfl⟩)); go_ret; exact ⟨rfl, HG.out ⟨_, HUP.out _⟩⟩)
    cases q3 : inB delay 0 240
    case false => (have hr := HBK.out (by simp [placeB, *]); subst hr; go_wp2_with (first | (with_reducible refine wpList_load_g 31 _ (by with_reducible rfl) _ _ (by with_unfolding_all rfl) (by with_unfolding_all rfl) _ _ (BelW.range HBX.out _) Tryz.underlying31 (by with_unfolding_all rfl) (by kernel_rfl) ?_) | (go_at_call 74; (with_reducible refine (CI.out _ _ _ _ _ (by assumption)).mono ?_); rintro e w1 ⟨rfl, z, rfl⟩) | (go_at_call 75; (with_reducible refine (CV.out _ _ _ (by assumption)).mono ?_); rintro e w1 ⟨rfl, z, rfl⟩) | (go_at_call 78; (with_reducible refine (CR.out _ _ (by assumption)).mono ?_); rintro e w1 ⟨rfl, z, rfl⟩) | (go_at_call 79; (with_reducible refine (CF.out _ _ (by assumption)).mono ?_); rintro e w1 ⟨rfl, z, rfl⟩) | (go_at_call 80; (with_reducible refine (CT.out _ _ (by assumption)).mono ?_); rintro e w1 ⟨rfl, z, rfl⟩)); go_ret; exact ⟨rfl, HG.out ⟨_, HUP.out _⟩⟩)
    cases q4 : volB cap
    case false => (have hr := HBK.out (by simp [placeB, *]); subst hr; go_wp2_with (first | (with_reducible refine wpList_load_g 31 _ (by with_reducible rfl) _ _ (by with_unfolding_all rfl) (by with_unfolding_all rfl) _ _ (BelW.range HBX.out _) Tryz.underlying31 (by with_unfolding_all rfl) (by kernel_rfl) ?_) | (go_at_call 74; (with_reducible refine (CI.out _ _ _ _ _ (by assumption)).mono ?_); rintro e w1 ⟨rfl, z, rfl⟩) | (go_at_call 75; (with_reducible refine (CV.out _ _ _ (by assumption)).mono ?_); rintro e w1 ⟨rfl, z, rfl⟩) | (go_at_call 78; (with_reducible refine (CR.out _ _ (by assumption)).mono ?_); rintro e w1 ⟨rfl, z, rfl⟩) | (go_at_call 79; (with_reducible refine (CF.out _ _ (by assumption)).mono ?_); rintro e w1 ⟨rfl, z, rfl⟩) | (go_at_call 80; (with_reducible refine (CT.out _ _ (by assumption)).mono ?_); rintro e w1 ⟨rfl, z, rfl⟩)); go_ret; exact ⟨rfl, HG.out ⟨_, HUP.out _⟩⟩)
    cases q5 : volB floor
    case false => (have hr := HBK.out (by simp [placeB, *]); subst hr; go_wp2_with (first | (with_reducible refine wpList_load_g 31 _ (by with_reducible rfl) _ _ (by with_unfolding_all rfl) (by with_unfolding_all rfl) _ _ (BelW.range HBX.out _) Tryz.underlying31 (by with_unfolding_all rfl) (by kernel_rfl) ?_) | (go_at_call 74; (with_reducible refine (CI.out _ _ _ _ _ (by assumption)).mono ?_); rintro e w1 ⟨rfl, z, rfl⟩) | (go_at_call 75; (with_reducible refine (CV.out _ _ _ (by assumption)).mono ?_); rintro e w1 ⟨rfl, z, rfl⟩) | (go_at_call 78; (with_reducible refine (CR.out _ _ (by assumption)).mono ?_); rintro e w1 ⟨rfl, z, rfl⟩) | (go_at_call 79; (with_reducible refine (CF.out _ _ (by assumption)).mono ?_); rintro e w1 ⟨rfl, z, rfl⟩) | (go_at_call 80; (with_reducible refine (CT.out _ _ (by assumption)).mono ?_); rintro e w1 ⟨rfl, z, rfl⟩)); go_ret; exact ⟨rfl, HG.out ⟨_, HUP.out _⟩⟩)
    cases q6 : rightB level
    case false => (have hr := HBK.out (by simp [placeB, *]); subst hr; go_wp2_with (first | (with_reducible refine wpList_load_g 31 _ (by with_reducible rfl) _ _ (by with_unfolding_all rfl) (by with_unfolding_all rfl) _ _ (BelW.range HBX.out _) Tryz.underlying31 (by with_unfolding_all rfl) (by kernel_rfl) ?_) | (go_at_call 74; (with_reducible refine (CI.out _ _ _ _ _ (by assumption)).mono ?_); rintro e w1 ⟨rfl, z, rfl⟩) | (go_at_call 75; (with_reducible refine (CV.out _ _ _ (by assumption)).mono ?_); rintro e w1 ⟨rfl, z, rfl⟩) | (go_at_call 78; (with_reducible refine (CR.out _ _ (by assumption)).mono ?_); rintro e w1 ⟨rfl, z, rfl⟩) | (go_at_call 79; (with_reducible refine (CF.out _ _ (by assumption)).mono ?_); rintro e w1 ⟨rfl, z, rfl⟩) | (go_at_call 80; (with_reducible refine (CT.out _ _ (by assumption)).mono ?_); rintro e w1 ⟨rfl, z, rfl⟩)); go_ret; exact ⟨rfl, HG.out ⟨_, HUP.out _⟩⟩)
    by_cases q7 : start.length = on
    case neg =>
      have t7 : ((start.length : Int) != (on : Int)) = true := bne_iff_ne.2 (by omega)
      (have hr := HBK.out (by simp [placeB, *]); subst hr; go_wp2_with (first | (with_reducible refine wpList_load_g 31 _ (by with_reducible rfl) _ _ (by with_unfolding_all rfl) (by with_unfolding_all rfl) _ _ (BelW.range HBX.out _) Tryz.underlying31 (by with_unfolding_all rfl) (by kernel_rfl) ?_) | (go_at_call 74; (with_reducible refine (CI.out _ _ _ _ _ (by assumption)).mono ?_); rintro e w1 ⟨rfl, z, rfl⟩) | (go_at_call 75; (with_reducible refine (CV.out _ _ _ (by assumption)).mono ?_); rintro e w1 ⟨rfl, z, rfl⟩) | (go_at_call 78; (with_reducible refine (CR.out _ _ (by assumption)).mono ?_); rintro e w1 ⟨rfl, z, rfl⟩) | (go_at_call 79; (with_reducible refine (CF.out _ _ (by assumption)).mono ?_); rintro e w1 ⟨rfl, z, rfl⟩) | (go_at_call 80; (with_reducible refine (CT.out _ _ (by assumption)).mono ?_); rintro e w1 ⟨rfl, z, rfl⟩)); go_ret; exact ⟨rfl, HG.out ⟨_, HUP.out _⟩⟩)
    have t7 : ((start.length : Int) != (on : Int)) = false := bne_eq_false_iff_eq.2 (by omega)
    cases q8 : fracB num den
    case false => (have hr := HBK.out (by simp [placeB, *]); subst hr; go_wp2_with (first | (with_reducible refine wpList_load_g 31 _ (by with_reducible rfl) _ _ (by with_unfolding_all rfl) (by with_unfolding_all rfl) _ _ (BelW.range HBX.out _) Tryz.underlying31 (by with_unfolding_all rfl) (by kernel_rfl) ?_) | (go_at_call 74; (with_reducible refine (CI.out _ _ _ _ _ (by assumption)).mono ?_); rintro e w1 ⟨rfl, z, rfl⟩) | (go_at_call 75; (with_reducible refine (CV.out _ _ _ (by assumption)).mono ?_); rintro e w1 ⟨rfl, z, rfl⟩) | (go_at_call 78; (with_reducible refine (CR.out _ _ (by assumption)).mono ?_); rintro e w1 ⟨rfl, z, rfl⟩) | (go_at_call 79; (with_reducible refine (CF.out _ _ (by assumption)).mono ?_); rintro e w1 ⟨rfl, z, rfl⟩) | (go_at_call 80; (with_reducible refine (CT.out _ _ (by assumption)).mono ?_); rintro e w1 ⟨rfl, z, rfl⟩)); go_ret; exact ⟨rfl, HG.out ⟨_, HUP.out _⟩⟩)
    cases q9 : targB ps.length (k : Int) down
    case false => (have hr := HBK.out (by simp [placeB, *]); subst hr; go_wp2_with (first | (with_reducible refine wpList_load_g 31 _ (by with_reducible rfl) _ _ (by with_unfolding_all rfl) (by with_unfolding_all rfl) _ _ (BelW.range HBX.out _) Tryz.underlying31 (by with_unfolding_all rfl) (by kernel_rfl) ?_) | (go_at_call 74; (with_reducible refine (CI.out _ _ _ _ _ (by assumption)).mono ?_); rintro e w1 ⟨rfl, z, rfl⟩) | (go_at_call 75; (with_reducible refine (CV.out _ _ _ (by assumption)).mono ?_); rintro e w1 ⟨rfl, z, rfl⟩) | (go_at_call 78; (with_reducible refine (CR.out _ _ (by assumption)).mono ?_); rintro e w1 ⟨rfl, z, rfl⟩) | (go_at_call 79; (with_reducible refine (CF.out _ _ (by assumption)).mono ?_); rintro e w1 ⟨rfl, z, rfl⟩) | (go_at_call 80; (with_reducible refine (CT.out _ _ (by assumption)).mono ?_); rintro e w1 ⟨rfl, z, rfl⟩)); go_ret; exact ⟨rfl, HG.out ⟨_, HUP.out _⟩⟩)
    have HPB := Lib.hid (show placeB ps.length on cells k ⟨nm, kind, office, cap, LVA, lvc, level, SA, sc, start, num, den, down, delay, floor, RA, rc, rain⟩ = (start.all volB && rainGo cells (-1) rain) by simp [placeB, *])
    have HBS := Lib.hid (fun (m : Nat) (hm : m < start.length) (h : volB start[m] = false) => HBK.out (by rw [HPB.out, all_bad hm h]; rfl))
    have HBR := Lib.hid (fun (h : rainGo cells (-1) rain = false) => HBK.out (by rw [HPB.out, h, Bool.and_false]))
    have HNP := Lib.hid (fun (h1 : start.all volB = true) (h2 : rainGo cells (-1) rain = true) => HNX.out (by rw [HPB.out, h1, h2]; rfl))
    clear HPB HBK HNX q7
    go_upto_region 7 with (first
      | (with_reducible refine wpList_load_g 31 _ (by with_reducible rfl) _ _ (by with_unfolding_all rfl) (by with_unfolding_all rfl) _ _ (BelW.range HBX.out _) Tryz.underlying31 (by with_unfolding_all rfl) (by kernel_rfl) ?_)
      | (go_at_call 74; (with_reducible refine (CI.out _ _ _ _ _ (by assumption)).mono ?_); rintro e w1 ⟨rfl, z, rfl⟩)
      | (go_at_call 75; (with_reducible refine (CV.out _ _ _ (by assumption)).mono ?_); rintro e w1 ⟨rfl, z, rfl⟩)
      | (go_at_call 78; (with_reducible refine (CR.out _ _ (by assumption)).mono ?_); rintro e w1 ⟨rfl, z, rfl⟩)
      | (go_at_call 79; (with_reducible refine (CF.out _ _ (by assumption)).mono ?_); rintro e w1 ⟨rfl, z, rfl⟩)
      | (go_at_call 80; (with_reducible refine (CT.out _ _ (by assumption)).mono ?_); rintro e w1 ⟨rfl, z, rfl⟩))
    clear q1 q2 q3 q4 q5 q6 q8 q9 t7 CI CR CF CT n1 n2 n3 n4 n6 n7 n8 n9 n10 b1 HXL
    go_wp2_with fail
    go_loopw [3, 81] (fun s3 s81 wr => PlaS X start s s3 s81 wr) (fun _ i _ => start.length - (intOf i).toNat)
    case atStart => exact ⟨0, s, by omega, rfl, rfl, Lib.hid ⟨all_none _ _, rfl⟩, z, rfl⟩
    case round =>
      obtain ⟨m, t, hm, rfl, rfl, hal, y2, rfl⟩ := hrel
      have HAL := Lib.hid hal.out
      clear hal
      by_cases hlm : m < start.length
      case neg =>
        have i5 : decide ((m : Int) < (start.length : Int)) = false := decide_eq_false (by omega)
        obtain rfl : m = start.length := by omega
        have HNQ := Lib.hid (fun (h2 : rainGo cells (-1) rain = true) => HNP.out (all_end HAL.out.1) h2 t (by have := HAL.out.2; rw [List.take_length] at this; exact this))
        clear HAL HNP HBS n5
        go_wp2_with fail
        go_loopw [8, 95] (fun s8 s95 wr => PlaR X cells rain s8 s95 wr) (fun _ i _ => rain.length - (intOf i).toNat)
        case atStart => exact ⟨0, -1, by omega, rfl, rfl, Lib.hid ⟨rfl, fun j h => absurd h (Nat.not_lt_zero _)⟩, y2, rfl⟩
        case round =>
          obtain ⟨m, l, hm, rfl, rfl, hal, y3, rfl⟩ := hrel
          have HAL := Lib.hid hal.out
          clear hal
          by_cases hlm : m < rain.length
          case neg =>
            have i6 : decide ((m : Int) < (rain.length : Int)) = false := decide_eq_false (by omega)
            obtain rfl : m = rain.length := by omega
            have HN2 := Lib.hid (HNQ.out (rainGo_all (fun j hj => by
              have := HAL.out.2 j hj
              exact ⟨by rw [← lastR_is]; exact this.low, this.high, this.vol⟩)))
            go_wp2_with fail
            go_roundw
            case rel => exact ⟨k + 1, t, by omega, by go_num, rfl, Lib.hid HN2.out, ⟨y3.w, HUP.out y3⟩, rfl⟩
            case measure => simp [intOf]; omega
          have i6 : decide ((m : Int) < (rain.length : Int)) = true := decide_eq_true (by omega)
          have j3 : (0 : Int) ≤ (m : Int) := by omega
          have j4 : (m : Int) < (rain.length : Int) := by omega
          have HRK := Lib.hid (fun h => HBR.out (rainGo_bad hlm h))
          have HNK := Lib.hid (fun (h : RnOk cells rain m) => (show (gs rain m).1 = lastR rain (m + 1) ∧ ∀ j, j < m + 1 → RnOk cells rain j from ⟨rfl, fun j hj => by
            by_cases e : j = m
            · subst e; exact h
            · exact HAL.out.2 j (by omega)⟩))
          rw [← lastR_is, ← HAL.out.1] at HRK
          have HRO := Lib.hid (fun (h1 : decide ((gs rain m).1 ≤ l) = false) (h2 : decide (cells ≤ (gs rain m).1) = false) (h3 : volB (gs rain m).2 = true) => (show RnOk cells rain m from ⟨by rw [← HAL.out.1]; exact h1, h2, h3⟩))
          obtain ⟨ad, pb, po, rfl, -, hE2, hrp⟩ := Rd.row spc 2 spc_length (by omega) (HXQ.out y3) hlm
          rw [← gs_at hlm] at hrp
          obtain ⟨C, hC⟩ : ∃ C, gs rain m = C := ⟨_, rfl⟩
          rw [hC] at hrp HRK HNK HRO
          clear hC HAL
          obtain ⟨ci, ca⟩ := C
          simp only at HRK HNK HRO
          have HRG := Lib.hid (show y3.w.rangeAt pb po [.int .i64 ci, .int .i64 ca] from hrp)
          clear hrp
          go_upto_region 18 with (first
            | (with_reducible refine wpList_load_g 94 _ (by with_reducible rfl) pb po (by with_unfolding_all rfl) (by with_unfolding_all rfl) _ _ HRG.out Tryz.underlying94 (by with_unfolding_all rfl) (by kernel_rfl) ?_)
            | (with_reducible refine wpList_store_new (z := [.int .i64 0, .int .i64 0]) (cs := [.int .i64 ci, .int .i64 ca]) 94 _ _ (by with_reducible rfl) (by with_unfolding_all rfl) y3.w.heap.size (by with_reducible rfl) _ (by with_unfolding_all rfl) (by with_unfolding_all rfl) (by with_unfolding_all rfl) (by kernel_rfl) (by with_unfolding_all rfl) ?_))
          refine wp_rebase _ (fun U hU u1 => ?_)
          have hbU : Below y3.w.heap.size y3.w U := by rw [hU]; exact bel_alloc (Below.refl _ _) _
          have HUX := Lib.hid (fun z : BelW U => (show Below X.heap.size X z.w from below_next (below_next y3.2 hbU) z.2))
          have HNU := Lib.hid (show U.rangeAt y3.w.heap.size 0 [.int .i64 ci, .int .i64 ca] by rw [hU]; exact range_new y3.w 94 [.int .i64 ci, .int .i64 ca])
          obtain ⟨nc, hnc⟩ : ∃ n, y3.w.heap.size = n := ⟨_, rfl⟩
          rw [hnc] at HNU ⊢
          have v0 := fun z : BelW U => (show z.w.cell? ⟨nc, 0, none⟩ = some (.int .i64 ci) from BelW.range HNU.out z 0 _ rfl)
          have v1 := fun z : BelW U => (show z.w.cell? ⟨nc, 1, none⟩ = some (.int .i64 ca) from BelW.range HNU.out z 1 _ rfl)
          have v2 := fun z : BelW U => (show z.w.cell? ⟨w.heap.size, 2, none⟩ = some (.int .i64 cells) from b2 ⟨z.w, HUX.out z⟩)
          have CU := Lib.hid (fun (z : BelW U) (b : Bool) (h : volB ca = b) => bel_of (x := z) (show Calls Tryz.prog 75 #[.int .i64 ca] z.w fun e w' => e = .returned (.bool b) ∧ Below z.w.heap.size z.w w' from h ▸ volume_is ca z.w))
          clear hU hnc hbU HRG hE2 n11
          by_cases c1 : ci ≤ l
          · have t1 : decide (ci ≤ l) = true := decide_eq_true c1
            have hr := HRK.out (.inl t1)
            subst hr
            clear c1
            (go_wp2_with (first | (go_at_call 75; (with_reducible refine (CU.out _ _ (by assumption)).mono ?_); rintro e w1 ⟨rfl, z, rfl⟩) | (go_at_call 75; (with_reducible refine (CV.out _ _ _ (by assumption)).mono ?_); rintro e w1 ⟨rfl, z, rfl⟩)); go_ret; exact ⟨rfl, by first | exact HG.out ⟨_, HUP.out _⟩ | exact HG.out ⟨_, HUP.out ⟨_, HUX.out _⟩⟩⟩)
          have t1 : decide (ci ≤ l) = false := decide_eq_false c1
          by_cases c2 : cells ≤ ci
          · have t2 : decide (cells ≤ ci) = true := decide_eq_true c2
            have hr := HRK.out (.inr (.inl t2))
            subst hr
            clear c1 c2
            (go_wp2_with (first | (go_at_call 75; (with_reducible refine (CU.out _ _ (by assumption)).mono ?_); rintro e w1 ⟨rfl, z, rfl⟩) | (go_at_call 75; (with_reducible refine (CV.out _ _ _ (by assumption)).mono ?_); rintro e w1 ⟨rfl, z, rfl⟩)); go_ret; exact ⟨rfl, by first | exact HG.out ⟨_, HUP.out _⟩ | exact HG.out ⟨_, HUP.out ⟨_, HUX.out _⟩⟩⟩)
          have t2 : decide (cells ≤ ci) = false := decide_eq_false c2
          clear c1 c2
          cases c3 : volB ca
          · have hr := HRK.out (.inr (.inr c3))
            subst hr
            (go_wp2_with (first | (go_at_call 75; (with_reducible refine (CU.out _ _ (by assumption)).mono ?_); rintro e w1 ⟨rfl, z, rfl⟩) | (go_at_call 75; (with_reducible refine (CV.out _ _ _ (by assumption)).mono ?_); rintro e w1 ⟨rfl, z, rfl⟩)); go_ret; exact ⟨rfl, by first | exact HG.out ⟨_, HUP.out _⟩ | exact HG.out ⟨_, HUP.out ⟨_, HUX.out _⟩⟩⟩)
          have HN2 := Lib.hid (HNK.out (HRO.out t1 t2 c3))
          go_wp2_with (first | (go_at_call 75; (with_reducible refine (CU.out _ _ (by assumption)).mono ?_); rintro e w1 ⟨rfl, z, rfl⟩))
          go_roundw
          case rel => exact ⟨m + 1, ci, by omega, by go_num, rfl, Lib.hid HN2.out, ⟨z.w, HUX.out z⟩, rfl⟩
          case measure => simp [intOf]; omega
      have i5 : decide ((m : Int) < (start.length : Int)) = true := decide_eq_true (by omega)
      have j3 : (0 : Int) ≤ (m : Int) := by omega
      have j4 : (m : Int) < (start.length : Int) := by omega
      obtain ⟨ad, rfl, hcell⟩ := rd_row (HXS.out y2) hlm
      have hgi : gi start m = start[m] := by simp [gi, List.getD, hlm]
      have HVK := Lib.hid (HBS.out m hlm)
      have HVN := Lib.hid (fun (h : volB start[m] = true) => all_next hlm HAL.out.1 h)
      have HVS := Lib.hid (fun (n : Int) (h : start[m] = n) => sumW_step hlm HAL.out.2 h)
      rw [← hgi] at HVK HVN HVS
      obtain ⟨c, hc⟩ : ∃ c, gi start m = c := ⟨_, rfl⟩
      rw [hc] at HVK HVN HVS hcell
      have HVS := Lib.hid (HVS.out c rfl)
      obtain ⟨r, hr⟩ : ∃ r, IntKind.i64.wrap (t + c) = r := ⟨_, rfl⟩
      have hrw : wrap64 (t + c) = r := (wrap_same _).trans hr
      rw [hr] at HVS
      clear hgi hc HAL
      cases c3 : volB c
      · have hr0 := HVK.out c3
        subst hr0
        (go_wp2_with (first | (go_at_call 75; (with_reducible refine (CU.out _ _ (by assumption)).mono ?_); rintro e w1 ⟨rfl, z, rfl⟩) | (go_at_call 75; (with_reducible refine (CV.out _ _ _ (by assumption)).mono ?_); rintro e w1 ⟨rfl, z, rfl⟩)); go_ret; exact ⟨rfl, by first | exact HG.out ⟨_, HUP.out _⟩ | exact HG.out ⟨_, HUP.out ⟨_, HUX.out _⟩⟩⟩)
      have HN2 := Lib.hid (And.intro (HVN.out c3) HVS.out)
      clear HVN HVS
      go_wp2_with (first | (go_at_call 75; (with_reducible refine (CV.out _ _ _ (by assumption)).mono ?_); rintro e w1 ⟨rfl, z, rfl⟩))
      go_roundw
      case rel => exact ⟨m + 1, r, by omega, by go_num, rfl, Lib.hid HN2.out, z, rfl⟩
      case measure => simp [intOf]; omega
end Go.Proofs.YtngjakahanmepaaGreatDoor
