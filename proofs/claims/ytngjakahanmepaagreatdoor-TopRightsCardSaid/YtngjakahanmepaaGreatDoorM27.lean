/- Part 27 of the proof of TopRights: basin.rightNames. Printed by wip/tools/mkbnam.py. -/
import Derived.Test.YtngjakahanmepaaGreatDoorM20
import Derived.Test.YtngjakahanmepaaGreatDoorM26
namespace Go.Proofs.YtngjakahanmepaaGreatDoor
open Go.RowKit Go.Maps
set_option linter.unusedVariables false
set_option linter.unusedSimpArgs false
def ovc (s : ByteArray) : List Value := [.string s]
def ownerG : ByteArray := ⟨#[111, 119, 110, 101, 114]⟩
def placeG : ByteArray := ⟨#[112, 108, 97, 99, 101]⟩
def linkG : ByteArray := ⟨#[108, 105, 110, 107]⟩
def town2G : ByteArray := ⟨#[116, 111, 119, 110]⟩
def shelterG : ByteArray := ⟨#[115, 104, 101, 108, 116, 101, 114]⟩
def gaugeG : ByteArray := ⟨#[103, 97, 117, 103, 101]⟩
def roadG : ByteArray := ⟨#[114, 111, 97, 100]⟩
def mks {α : Type} (g : ByteArray) (nmf : α → ByteArray) (l : List α) : List Mk := l.map fun x => (grpF g, nmf x)
def marks (os : List ByteArray) (ps : List Pl) (ls : List Lk) (ts : List Tw) (ss : List Sh) (gs : List Gg) (rs : List Rv) : List Mk :=
  mks ownerG id os ++ mks placeG Pl.nm ps ++ mks linkG Lk.nm ls ++ mks town2G Tw.nm ts ++ mks shelterG Sh.nm ss ++ mks gaugeG Gg.nm gs ++ mks roadG Rv.nm rs
def namesB (os : List ByteArray) (ps : List Pl) (ls : List Lk) (ts : List Tw) (ss : List Sh) (gs : List Gg) (rs : List Rv) : Bool := ((marks os ps ls ts ss gs rs).foldl markStep ([], true)).2
def stOf (ms : List Mk) : List Mk × Bool := ms.foldl markStep ([], true)
theorem stOf_snoc (ms : List Mk) (m : Mk) : markStep (stOf ms) m = stOf (ms ++ [m]) := by simp [stOf]
theorem mks_take {α : Type} (g : ByteArray) (nmf : α → ByteArray) {l : List α} {k : Nat} (hk : k < l.length) : mks g nmf (l.take (k + 1)) = mks g nmf (l.take k) ++ [(grpF g, nmf l[k])] := by
  unfold mks
  rw [List.take_succ_eq_append_getElem hk, List.map_append]
  rfl
/-- the loop over the names of a sort -/
def NmL (V : World) (mb sb kb : Nat) {α : Type} (g : ByteArray) (nmf : α → ByteArray) (l : List α) (ms : List Mk) (s : Value) (wr : World) : Prop := ∃ k : Nat, k ≤ l.length ∧ s = .int .i64 (k : Int) ∧ Hid (NmS V mb sb kb (ms.length + k) (stOf (ms ++ mks g nmf (l.take k))) wr)
theorem NmL.go {V : World} {mb sb kb : Nat} {α : Type} {g : ByteArray} {nmf : α → ByteArray} {l : List α} {ms : List Mk} {k : Nat} (hk : k < l.length) {w : World} (h : NmS V mb sb kb (ms.length + k + 1) (markStep (stOf (ms ++ mks g nmf (l.take k))) (grpF g, nmf l[k])) w) : NmS V mb sb kb (ms.length + (k + 1)) (stOf (ms ++ mks g nmf (l.take (k + 1)))) w := by
  rw [stOf_snoc, List.append_assoc, ← mks_take g nmf hk] at h
  exact h
theorem NmL.fin {V : World} {mb sb kb : Nat} {α : Type} {g : ByteArray} {nmf : α → ByteArray} {l : List α} {ms : List Mk} {w : World} (h : NmS V mb sb kb (ms.length + l.length) (stOf (ms ++ mks g nmf (l.take l.length))) w) : NmS V mb sb kb (ms ++ mks g nmf l).length (stOf (ms ++ mks g nmf l)) w := by
  rw [List.take_length] at h
  have e : (ms ++ mks g nmf l).length = ms.length + l.length := by simp [mks]
  rw [e]
  exact h
theorem NmS.no (V : World) {mb sb kb : Nat} {w : World} (h : NmS V mb sb kb 0 ([], true) w) {α : Type} (g : ByteArray) (nmf : α → ByteArray) (l : List α) (ms : List Mk) (hm : ms = []) : NmS V mb sb kb (ms.length + 0) (stOf (ms ++ mks g nmf (l.take 0))) w := by
  subst hm
  exact h
theorem NmS.on {V : World} {mb sb kb : Nat} {w : World} {ms : List Mk} (h : NmS V mb sb kb ms.length (stOf ms) w) {α : Type} (g : ByteArray) (nmf : α → ByteArray) (l : List α) : NmS V mb sb kb (ms.length + 0) (stOf (ms ++ mks g nmf (l.take 0))) w := by
  have e : ms ++ mks g nmf (l.take 0) = ms := by simp [mks]
  rw [e]
  exact h
set_option maxHeartbeats 64000000 in
set_option maxRecDepth 100000 in
theorem names_is (d0 d2 d9 d10 : Value) (OA B LA TA GA RDA SA : Option Addr) (oc cb lc tc gc rdc sc : Nat) (os : List ByteArray) (ps : List Pl) (ls : List Lk) (ts : List Tw) (gs' : List Gg) (rs : List Rv) (ss : List Sh)
    (hb : os.length ≤ 1000 ∧ ps.length ≤ 1000 ∧ ls.length ≤ 1000 ∧ ts.length ≤ 1000 ∧ gs'.length ≤ 1000 ∧ rs.length ≤ 1000 ∧ ss.length ≤ 1000)
    (hz : (∀ x ∈ os, x.size ≤ 9223372036854775807) ∧ (∀ x ∈ ps, x.nm.size ≤ 9223372036854775807) ∧ (∀ x ∈ ls, x.nm.size ≤ 9223372036854775807) ∧ (∀ x ∈ ts, x.nm.size ≤ 9223372036854775807) ∧ (∀ x ∈ ss, x.nm.size ≤ 9223372036854775807) ∧ (∀ x ∈ gs', x.nm.size ≤ 9223372036854775807) ∧ (∀ x ∈ rs, x.nm.size ≤ 9223372036854775807))
    (w : World) (ho : Rd w OA (os.flatMap ovc)) (hp : Pls w B ps) (hl : Lks w LA ls) (ht : Rd w TA (ts.flatMap twc)) (hg : Rd w GA (gs'.flatMap ggc)) (hr : Rd w RDA (rs.flatMap rvc)) (hs : Rd w SA (ss.flatMap shc)) :
    Calls Tryz.prog 36 #[.agg #[d0, .slice OA os.length oc, d2, .slice B ps.length cb, .slice LA ls.length lc, .slice TA ts.length tc, .slice GA gs'.length gc, .slice RDA rs.length rdc, .slice SA ss.length sc, d9, d10]] w fun e w' => e = .returned (.bool (namesB os ps ls ts ss gs' rs)) ∧ Below w.heap.size w w' := by
  have HRES := Lib.hid (show namesB os ps ls ts ss gs' rs = (stOf (((((((([] : List Mk) ++ mks ownerG id os) ++ mks placeG Pl.nm ps) ++ mks linkG Lk.nm ls) ++ mks town2G Tw.nm ts) ++ mks shelterG Sh.nm ss) ++ mks gaugeG Gg.nm gs') ++ mks roadG Rv.nm rs)).2 from rfl)
  obtain ⟨R, hR⟩ : ∃ b, namesB os ps ls ts ss gs' rs = b := ⟨_, rfl⟩
  rw [hR] at HRES ⊢
  clear hR
  have hmm := @run_makeMap Tryz.prog
  go_enter Tryz.func36, Tryz.ntmps36
  go_upto_region 1 with fail
  refine wp_rebase _ (fun V hV x0 => ?_)
  have HB0 := Lib.hid (show Below w.heap.size w V by rw [hV]; exact bel_alloc (Below.refl _ _) _)
  have HBB := Lib.hid (show V.rangeAt w.heap.size 0 [d0, .slice OA os.length oc, d2, .slice B ps.length cb, .slice LA ls.length lc, .slice TA ts.length tc, .slice GA gs'.length gc, .slice RDA rs.length rdc, .slice SA ss.length sc, d9, d10] by rw [hV]; exact range_new _ _ [d0, .slice OA os.length oc, d2, .slice B ps.length cb, .slice LA ls.length lc, .slice TA ts.length tc, .slice GA gs'.length gc, .slice RDA rs.length rdc, .slice SA ss.length sc, d9, d10])
  clear hV
  have H_owner := Lib.hid (fun (W : World) (hW : Below V.heap.size V W) => (show Rd W OA (os.flatMap ovc) from (ho.below (Nat.le_refl _) HB0.out).below (Nat.le_refl _) hW))
  have Z_owner := Lib.hid hz.1
  have B_owner := Lib.hid (fun (W : World) (hW : Below V.heap.size V W) => (show W.cell? ⟨w.heap.size, 1, none⟩ = some (.slice OA os.length oc) from BelW.range HBB.out ⟨W, hW⟩ 1 _ rfl))
  have H_place := Lib.hid (fun (W : World) (hW : Below V.heap.size V W) => (show Rd W B (ps.flatMap plc) from (hp.rd.below (Nat.le_refl _) HB0.out).below (Nat.le_refl _) hW))
  have Z_place := Lib.hid hz.2.1
  have B_place := Lib.hid (fun (W : World) (hW : Below V.heap.size V W) => (show W.cell? ⟨w.heap.size, 3, none⟩ = some (.slice B ps.length cb) from BelW.range HBB.out ⟨W, hW⟩ 3 _ rfl))
  have H_link := Lib.hid (fun (W : World) (hW : Below V.heap.size V W) => (show Rd W LA (ls.flatMap lkc) from (hl.rd.below (Nat.le_refl _) HB0.out).below (Nat.le_refl _) hW))
  have Z_link := Lib.hid hz.2.2.1
  have B_link := Lib.hid (fun (W : World) (hW : Below V.heap.size V W) => (show W.cell? ⟨w.heap.size, 4, none⟩ = some (.slice LA ls.length lc) from BelW.range HBB.out ⟨W, hW⟩ 4 _ rfl))
  have H_town := Lib.hid (fun (W : World) (hW : Below V.heap.size V W) => (show Rd W TA (ts.flatMap twc) from (ht.below (Nat.le_refl _) HB0.out).below (Nat.le_refl _) hW))
  have Z_town := Lib.hid hz.2.2.2.1
  have B_town := Lib.hid (fun (W : World) (hW : Below V.heap.size V W) => (show W.cell? ⟨w.heap.size, 5, none⟩ = some (.slice TA ts.length tc) from BelW.range HBB.out ⟨W, hW⟩ 5 _ rfl))
  have H_shelter := Lib.hid (fun (W : World) (hW : Below V.heap.size V W) => (show Rd W SA (ss.flatMap shc) from (hs.below (Nat.le_refl _) HB0.out).below (Nat.le_refl _) hW))
  have Z_shelter := Lib.hid hz.2.2.2.2.1
  have B_shelter := Lib.hid (fun (W : World) (hW : Below V.heap.size V W) => (show W.cell? ⟨w.heap.size, 8, none⟩ = some (.slice SA ss.length sc) from BelW.range HBB.out ⟨W, hW⟩ 8 _ rfl))
  have H_gauge := Lib.hid (fun (W : World) (hW : Below V.heap.size V W) => (show Rd W GA (gs'.flatMap ggc) from (hg.below (Nat.le_refl _) HB0.out).below (Nat.le_refl _) hW))
  have Z_gauge := Lib.hid hz.2.2.2.2.2.1
  have B_gauge := Lib.hid (fun (W : World) (hW : Below V.heap.size V W) => (show W.cell? ⟨w.heap.size, 6, none⟩ = some (.slice GA gs'.length gc) from BelW.range HBB.out ⟨W, hW⟩ 6 _ rfl))
  have H_road := Lib.hid (fun (W : World) (hW : Below V.heap.size V W) => (show Rd W RDA (rs.flatMap rvc) from (hr.below (Nat.le_refl _) HB0.out).below (Nat.le_refl _) hW))
  have Z_road := Lib.hid hz.2.2.2.2.2.2
  have B_road := Lib.hid (fun (W : World) (hW : Below V.heap.size V W) => (show W.cell? ⟨w.heap.size, 7, none⟩ = some (.slice RDA rs.length rdc) from BelW.range HBB.out ⟨W, hW⟩ 7 _ rfl))
  clear ho hp hl ht hg hr hs hz HBB
  have HGB := Lib.hid (fun (W : World) (hW : Below V.heap.size V W) => (show Below w.heap.size w W from below_next HB0.out hW))
  obtain ⟨hn1, hn2, hn3, hn4, hn5, hn6, hn7⟩ := hb
  have HNN := Lib.hid (show ∀ ms : List Mk, ms.length ≤ 7000 → ∀ k, k ≤ 1000 → ms.length + k < maxLen from fun ms h k hk => by unfold maxLen; omega)
  go_upto_region 4 with fail
  refine wp_rebase _ (fun W hW y0 => ?_)
  have HNM := Lib.hid (show NmS V x0.w.heap.size (x0.w.heap.size + 1) (x0.w.heap.size + 1 + 1) 0 ([], true) W from by
    rw [hW]
    refine ⟨bel_alloc (bel_alloc (bel_alloc x0.2 _) _) _, ⟨fun _ => .bool false, (MapIs.made _ _ _ x0.w).next (bel_alloc (bel_alloc (Below.refl _ _) _) _), fun m _ _ => rfl, fun m h => by cases h⟩, ?_, ?_, ?_, x0.2.size, by have h : V.heap.size ≤ x0.w.heap.size := x0.2.size; omega, by omega, by omega, by omega⟩
    · refine cell_alloc ?_ _
      have h := range_new (x0.w.alloc (.map #[] 0)) 160 [.map (some x0.w.heap.size)] 0 _ rfl
      rw [World.size_alloc] at h
      exact h
    · have h := range_new ((x0.w.alloc (.map #[] 0)).alloc (.cells [Value.map (some x0.w.heap.size)].toArray 160)) 4 [.bool true] 0 _ rfl
      rw [World.size_alloc, World.size_alloc] at h
      exact h
    · exact World.frozen?_alloc_at _ _ _ _ (by rw [World.size_alloc, World.size_alloc]))
  clear hW
  obtain ⟨mb, hmb⟩ : ∃ n, x0.w.heap.size = n := ⟨_, rfl⟩
  rw [hmb] at HNM ⊢
  clear hmb x0
  obtain ⟨ms0, hms0⟩ : ∃ ms : List Mk, ([] : List Mk) = ms := ⟨_, rfl⟩
  have HNM := Lib.hid (NmS.no V HNM.out ownerG (id : ByteArray → ByteArray) os ms0 hms0.symm)
  have HNM := Lib.hid (HNM.out.next (w' := y0.w) y0.2)
  rw [hms0] at HRES
  have HLN := Lib.hid (show ms0.length ≤ 0 by rw [← hms0]; exact Nat.le_refl _)
  clear hms0
  have cb0 := B_owner.out _ HNM.out.bel
  go_wp2_with fail
  go_loopw [25] (fun s25 wr => NmL V mb (mb + 1) (mb + 1 + 1) ownerG (id : ByteArray → ByteArray) os ms0 s25 wr) (fun i _ => os.length - (intOf i).toNat)
  case atStart => exact ⟨0, by omega, rfl, Lib.hid HNM.out⟩
  case round =>
    clear HNM cb0
    obtain ⟨k, hk, rfl, hnm⟩ := hrel
    have HNM := Lib.hid hnm.out
    clear hnm
    by_cases hlt : k < os.length
    case pos =>
      have i4 : decide ((k : Int) < (os.length : Int)) = true := decide_eq_true (by omega)
      have j1 : (0 : Int) ≤ (k : Int) := by omega
      have j2 : (k : Int) < (os.length : Int) := by omega
      have HGO := Lib.hid (fun (W : World) h => NmL.go (V := V) (mb := mb) (sb := mb + 1) (kb := mb + 1 + 1) (g := ownerG) (nmf := (id : ByteArray → ByteArray)) (ms := ms0) (w := W) hlt h)
      have hsz := Z_owner.out _ (List.getElem_mem hlt)
      have hnn := HNN.out ms0 (by have := HLN.out; omega) k (by omega)
      obtain ⟨rd, rb0, ro, rfl, hbs, hE, hrt⟩ := Rd.row ovc 1 (fun _ => rfl) (by omega) (H_owner.out _ HNM.out.bel) hlt
      obtain ⟨X, hX⟩ : ∃ X, os[k] = X := ⟨_, rfl⟩
      rw [hX] at hrt HGO hsz
      clear hX hbs
      have c0 : wr.cell? (rd.add k) = some (.string X) := by
        have h := hrt 0 (.string X) rfl
        rw [Nat.mul_one] at hE
        rw [hE]; exact h
      have CK := Lib.hid (check_is V mb (mb + 1) (mb + 1 + 1) (ms0.length + k) _ ownerG X (by decide) hsz hnn wr HNM.out)
      clear hrt hnn hsz hE
      go_wp2_with fail
      refine CK.out.mono ?_
      rintro e w2 ⟨rfl, hnm2⟩
      have HNM2 := Lib.hid (HGO.out _ hnm2)
      clear hnm2 CK HGO
      go_wp2_with fail
      go_roundw
      case rel => exact ⟨k + 1, by omega, by go_num, Lib.hid HNM2.out⟩
      case measure => simp [intOf]; omega
    have i5 : decide ((k : Int) < (os.length : Int)) = false := decide_eq_false (by omega)
    obtain rfl : k = os.length := by omega
    have HNM := Lib.hid (NmL.fin HNM.out)
    obtain ⟨ms1, hms1⟩ : ∃ ms : List Mk, (ms0 ++ mks ownerG id os) = ms := ⟨_, rfl⟩
    rw [hms1] at HRES HNM
    have HLN := Lib.hid (show ms1.length ≤ 1000 by rw [← hms1]; have := HLN.out; simp only [List.length_append, mks, List.length_map]; omega)
    have HNM := Lib.hid (NmS.on HNM.out placeG Pl.nm ps)
    clear hms1
    have cb1 := B_place.out _ HNM.out.bel
    go_wp2_with fail
    go_loopw [36] (fun s36 wr => NmL V mb (mb + 1) (mb + 1 + 1) placeG (Pl.nm) ps ms1 s36 wr) (fun i _ => ps.length - (intOf i).toNat)
    case atStart => exact ⟨0, by omega, rfl, Lib.hid HNM.out⟩
    case round =>
      clear HNM cb1
      obtain ⟨k, hk, rfl, hnm⟩ := hrel
      have HNM := Lib.hid hnm.out
      clear hnm
      by_cases hlt : k < ps.length
      case pos =>
        have i4 : decide ((k : Int) < (ps.length : Int)) = true := decide_eq_true (by omega)
        have j1 : (0 : Int) ≤ (k : Int) := by omega
        have j2 : (k : Int) < (ps.length : Int) := by omega
        have HGO := Lib.hid (fun (W : World) h => NmL.go (V := V) (mb := mb) (sb := mb + 1) (kb := mb + 1 + 1) (g := placeG) (nmf := Pl.nm) (ms := ms1) (w := W) hlt h)
        have hsz := Z_place.out _ (List.getElem_mem hlt)
        have hnn := HNN.out ms1 (by have := HLN.out; omega) k (by omega)
        obtain ⟨rd, rb0, ro, rfl, hbs, hE, hrt⟩ := Rd.row plc 12 (fun _ => rfl) (by omega) (H_place.out _ HNM.out.bel) hlt
        obtain ⟨X, hX⟩ : ∃ X, ps[k] = X := ⟨_, rfl⟩
        rw [hX] at hrt HGO hsz
        clear hX hbs
        obtain ⟨nm, kind, office, cap, LVA, lvc, level, SA, sc, start, num, den, down, delay, floor, RA, rc, rain⟩ := X
        simp only at hsz HGO
        have HRG := Lib.hid (show wr.rangeAt rb0 ro [.string nm, .int .i64 kind, .int .i64 office, .int .i64 cap, .slice LVA level.length lvc, .slice SA start.length sc, .int .i64 num, .int .i64 den, .int .i64 down, .int .i64 delay, .int .i64 floor, .slice RA rain.length rc] from hrt)
        clear hrt
        go_upto_region 12 with (first
          | (with_reducible refine wpList_load_g 90 _ (by with_reducible rfl) rb0 ro (by with_unfolding_all rfl) (by with_unfolding_all rfl) _ _ HRG.out Tryz.underlying90 (by with_unfolding_all rfl) (by kernel_rfl) ?_)
          | (with_reducible refine wpList_store_new (z := [.string ⟨#[]⟩, .int .i64 0, .int .i64 0, .int .i64 0, .slice none 0 0, .slice none 0 0, .int .i64 0, .int .i64 0, .int .i64 0, .int .i64 0, .int .i64 0, .slice none 0 0]) (cs := [.string nm, .int .i64 kind, .int .i64 office, .int .i64 cap, .slice LVA level.length lvc, .slice SA start.length sc, .int .i64 num, .int .i64 den, .int .i64 down, .int .i64 delay, .int .i64 floor, .slice RA rain.length rc]) 90 _ _ (by with_reducible rfl) (by with_unfolding_all rfl) wr.heap.size (by with_reducible rfl) _ (by with_unfolding_all rfl) (by with_unfolding_all rfl) (by with_unfolding_all rfl) (by kernel_rfl) (by with_unfolding_all rfl) ?_))
        refine wp_rebase _ (fun X hX x1 => ?_)
        have hbX : Below wr.heap.size wr X := by rw [hX]; exact bel_alloc (Below.refl _ _) _
        have HN := Lib.hid (show X.rangeAt wr.heap.size 0 [.string nm, .int .i64 kind, .int .i64 office, .int .i64 cap, .slice LVA level.length lvc, .slice SA start.length sc, .int .i64 num, .int .i64 den, .int .i64 down, .int .i64 delay, .int .i64 floor, .slice RA rain.length rc] by rw [hX]; exact range_new wr 90 [.string nm, .int .i64 kind, .int .i64 office, .int .i64 cap, .slice LVA level.length lvc, .slice SA start.length sc, .int .i64 num, .int .i64 den, .int .i64 down, .int .i64 delay, .int .i64 floor, .slice RA rain.length rc])
        have CK := Lib.hid (check_is V mb (mb + 1) (mb + 1 + 1) (ms1.length + k) _ placeG nm (by decide) hsz hnn x1.w ((HNM.out.next hbX).next (w' := x1.w) x1.2))
        obtain ⟨nb, hnb⟩ : ∃ n, wr.heap.size = n := ⟨_, rfl⟩
        rw [hnb] at HN ⊢
        have n0 := fun z : BelW X => (show z.w.cell? ⟨nb, 0, none⟩ = some (.string nm) from BelW.range HN.out z 0 _ rfl)
        clear hX hnb hbX HRG hE hnn hsz HNM
        go_wp2_with fail
        refine CK.out.mono ?_
        rintro e w2 ⟨rfl, hnm2⟩
        have HNM2 := Lib.hid (HGO.out _ hnm2)
        clear hnm2 CK HGO
        go_wp2_with fail
        go_roundw
        case rel => exact ⟨k + 1, by omega, by go_num, Lib.hid HNM2.out⟩
        case measure => simp [intOf]; omega
      have i5 : decide ((k : Int) < (ps.length : Int)) = false := decide_eq_false (by omega)
      obtain rfl : k = ps.length := by omega
      have HNM := Lib.hid (NmL.fin HNM.out)
      obtain ⟨ms2, hms2⟩ : ∃ ms : List Mk, (ms1 ++ mks placeG Pl.nm ps) = ms := ⟨_, rfl⟩
      rw [hms2] at HRES HNM
      have HLN := Lib.hid (show ms2.length ≤ 2000 by rw [← hms2]; have := HLN.out; simp only [List.length_append, mks, List.length_map]; omega)
      have HNM := Lib.hid (NmS.on HNM.out linkG Lk.nm ls)
      clear hms2
      have cb2 := B_link.out _ HNM.out.bel
      go_wp2_with fail
      go_loopw [48] (fun s48 wr => NmL V mb (mb + 1) (mb + 1 + 1) linkG (Lk.nm) ls ms2 s48 wr) (fun i _ => ls.length - (intOf i).toNat)
      case atStart => exact ⟨0, by omega, rfl, Lib.hid HNM.out⟩
      case round =>
        clear HNM cb2
        obtain ⟨k, hk, rfl, hnm⟩ := hrel
        have HNM := Lib.hid hnm.out
        clear hnm
        by_cases hlt : k < ls.length
        case pos =>
          have i4 : decide ((k : Int) < (ls.length : Int)) = true := decide_eq_true (by omega)
          have j1 : (0 : Int) ≤ (k : Int) := by omega
          have j2 : (k : Int) < (ls.length : Int) := by omega
          have HGO := Lib.hid (fun (W : World) h => NmL.go (V := V) (mb := mb) (sb := mb + 1) (kb := mb + 1 + 1) (g := linkG) (nmf := Lk.nm) (ms := ms2) (w := W) hlt h)
          have hsz := Z_link.out _ (List.getElem_mem hlt)
          have hnn := HNN.out ms2 (by have := HLN.out; omega) k (by omega)
          obtain ⟨rd, rb0, ro, rfl, hbs, hE, hrt⟩ := Rd.row lkc 18 (fun _ => rfl) (by omega) (H_link.out _ HNM.out.bel) hlt
          obtain ⟨X, hX⟩ : ∃ X, ls[k] = X := ⟨_, rfl⟩
          rw [hX] at hrt HGO hsz
          clear hX hbs
          obtain ⟨nm, kind, fr, to', RA, rc, rate, LB, lcc, lo, HA, hc, hi, pos, spd, leak, crest, num, den, prime, brk, bnum, bden, delay⟩ := X
          simp only at hsz HGO
          have HRG := Lib.hid (show wr.rangeAt rb0 ro [.string nm, .int .i64 kind, .int .i64 fr, .int .i64 to', .slice RA rate.length rc, .slice LB lo.length lcc, .slice HA hi.length hc, .int .i64 pos, .int .i64 spd, .int .i64 leak, .int .i64 crest, .int .i64 num, .int .i64 den, .int .i64 prime, .int .i64 brk, .int .i64 bnum, .int .i64 bden, .int .i64 delay] from hrt)
          clear hrt
          go_upto_region 17 with (first
            | (with_reducible refine wpList_load_g 98 _ (by with_reducible rfl) rb0 ro (by with_unfolding_all rfl) (by with_unfolding_all rfl) _ _ HRG.out Tryz.underlying98 (by with_unfolding_all rfl) (by kernel_rfl) ?_)
            | (with_reducible refine wpList_store_new (z := [.string ⟨#[]⟩, .int .i64 0, .int .i64 0, .int .i64 0, .slice none 0 0, .slice none 0 0, .slice none 0 0, .int .i64 0, .int .i64 0, .int .i64 0, .int .i64 0, .int .i64 0, .int .i64 0, .int .i64 0, .int .i64 0, .int .i64 0, .int .i64 0, .int .i64 0]) (cs := [.string nm, .int .i64 kind, .int .i64 fr, .int .i64 to', .slice RA rate.length rc, .slice LB lo.length lcc, .slice HA hi.length hc, .int .i64 pos, .int .i64 spd, .int .i64 leak, .int .i64 crest, .int .i64 num, .int .i64 den, .int .i64 prime, .int .i64 brk, .int .i64 bnum, .int .i64 bden, .int .i64 delay]) 98 _ _ (by with_reducible rfl) (by with_unfolding_all rfl) wr.heap.size (by with_reducible rfl) _ (by with_unfolding_all rfl) (by with_unfolding_all rfl) (by with_unfolding_all rfl) (by kernel_rfl) (by with_unfolding_all rfl) ?_))
          refine wp_rebase _ (fun X hX x1 => ?_)
          have hbX : Below wr.heap.size wr X := by rw [hX]; exact bel_alloc (Below.refl _ _) _
          have HN := Lib.hid (show X.rangeAt wr.heap.size 0 [.string nm, .int .i64 kind, .int .i64 fr, .int .i64 to', .slice RA rate.length rc, .slice LB lo.length lcc, .slice HA hi.length hc, .int .i64 pos, .int .i64 spd, .int .i64 leak, .int .i64 crest, .int .i64 num, .int .i64 den, .int .i64 prime, .int .i64 brk, .int .i64 bnum, .int .i64 bden, .int .i64 delay] by rw [hX]; exact range_new wr 98 [.string nm, .int .i64 kind, .int .i64 fr, .int .i64 to', .slice RA rate.length rc, .slice LB lo.length lcc, .slice HA hi.length hc, .int .i64 pos, .int .i64 spd, .int .i64 leak, .int .i64 crest, .int .i64 num, .int .i64 den, .int .i64 prime, .int .i64 brk, .int .i64 bnum, .int .i64 bden, .int .i64 delay])
          have CK := Lib.hid (check_is V mb (mb + 1) (mb + 1 + 1) (ms2.length + k) _ linkG nm (by decide) hsz hnn x1.w ((HNM.out.next hbX).next (w' := x1.w) x1.2))
          obtain ⟨nb, hnb⟩ : ∃ n, wr.heap.size = n := ⟨_, rfl⟩
          rw [hnb] at HN ⊢
          have n0 := fun z : BelW X => (show z.w.cell? ⟨nb, 0, none⟩ = some (.string nm) from BelW.range HN.out z 0 _ rfl)
          clear hX hnb hbX HRG hE hnn hsz HNM
          go_wp2_with fail
          refine CK.out.mono ?_
          rintro e w2 ⟨rfl, hnm2⟩
          have HNM2 := Lib.hid (HGO.out _ hnm2)
          clear hnm2 CK HGO
          go_wp2_with fail
          go_roundw
          case rel => exact ⟨k + 1, by omega, by go_num, Lib.hid HNM2.out⟩
          case measure => simp [intOf]; omega
        have i5 : decide ((k : Int) < (ls.length : Int)) = false := decide_eq_false (by omega)
        obtain rfl : k = ls.length := by omega
        have HNM := Lib.hid (NmL.fin HNM.out)
        obtain ⟨ms3, hms3⟩ : ∃ ms : List Mk, (ms2 ++ mks linkG Lk.nm ls) = ms := ⟨_, rfl⟩
        rw [hms3] at HRES HNM
        have HLN := Lib.hid (show ms3.length ≤ 3000 by rw [← hms3]; have := HLN.out; simp only [List.length_append, mks, List.length_map]; omega)
        have HNM := Lib.hid (NmS.on HNM.out town2G Tw.nm ts)
        clear hms3
        have cb3 := B_town.out _ HNM.out.bel
        go_wp2_with fail
        go_loopw [60] (fun s60 wr => NmL V mb (mb + 1) (mb + 1 + 1) town2G (Tw.nm) ts ms3 s60 wr) (fun i _ => ts.length - (intOf i).toNat)
        case atStart => exact ⟨0, by omega, rfl, Lib.hid HNM.out⟩
        case round =>
          clear HNM cb3
          obtain ⟨k, hk, rfl, hnm⟩ := hrel
          have HNM := Lib.hid hnm.out
          clear hnm
          by_cases hlt : k < ts.length
          case pos =>
            have i4 : decide ((k : Int) < (ts.length : Int)) = true := decide_eq_true (by omega)
            have j1 : (0 : Int) ≤ (k : Int) := by omega
            have j2 : (k : Int) < (ts.length : Int) := by omega
            have HGO := Lib.hid (fun (W : World) h => NmL.go (V := V) (mb := mb) (sb := mb + 1) (kb := mb + 1 + 1) (g := town2G) (nmf := Tw.nm) (ms := ms3) (w := W) hlt h)
            have hsz := Z_town.out _ (List.getElem_mem hlt)
            have hnn := HNN.out ms3 (by have := HLN.out; omega) k (by omega)
            obtain ⟨rd, rb0, ro, rfl, hbs, hE, hrt⟩ := Rd.row twc 7 (fun _ => rfl) (by omega) (H_town.out _ HNM.out.bel) hlt
            obtain ⟨X, hX⟩ : ∃ X, ts[k] = X := ⟨_, rfl⟩
            rw [hX] at hrt HGO hsz
            clear hX hbs
            obtain ⟨nm, pla, flo, lead, peo, wat, quo⟩ := X
            simp only at hsz HGO
            have HRG := Lib.hid (show wr.rangeAt rb0 ro [.string nm, .int .i64 pla, .int .i64 flo, .int .i64 lead, .int .i64 peo, .int .i64 wat, .int .i64 quo] from hrt)
            clear hrt
            go_upto_region 22 with (first
              | (with_reducible refine wpList_load_g 100 _ (by with_reducible rfl) rb0 ro (by with_unfolding_all rfl) (by with_unfolding_all rfl) _ _ HRG.out Tryz.underlying100 (by with_unfolding_all rfl) (by kernel_rfl) ?_)
              | (with_reducible refine wpList_store_new (z := [.string ⟨#[]⟩, .int .i64 0, .int .i64 0, .int .i64 0, .int .i64 0, .int .i64 0, .int .i64 0]) (cs := [.string nm, .int .i64 pla, .int .i64 flo, .int .i64 lead, .int .i64 peo, .int .i64 wat, .int .i64 quo]) 100 _ _ (by with_reducible rfl) (by with_unfolding_all rfl) wr.heap.size (by with_reducible rfl) _ (by with_unfolding_all rfl) (by with_unfolding_all rfl) (by with_unfolding_all rfl) (by kernel_rfl) (by with_unfolding_all rfl) ?_))
            refine wp_rebase _ (fun X hX x1 => ?_)
            have hbX : Below wr.heap.size wr X := by rw [hX]; exact bel_alloc (Below.refl _ _) _
            have HN := Lib.hid (show X.rangeAt wr.heap.size 0 [.string nm, .int .i64 pla, .int .i64 flo, .int .i64 lead, .int .i64 peo, .int .i64 wat, .int .i64 quo] by rw [hX]; exact range_new wr 100 [.string nm, .int .i64 pla, .int .i64 flo, .int .i64 lead, .int .i64 peo, .int .i64 wat, .int .i64 quo])
            have CK := Lib.hid (check_is V mb (mb + 1) (mb + 1 + 1) (ms3.length + k) _ town2G nm (by decide) hsz hnn x1.w ((HNM.out.next hbX).next (w' := x1.w) x1.2))
            obtain ⟨nb, hnb⟩ : ∃ n, wr.heap.size = n := ⟨_, rfl⟩
            rw [hnb] at HN ⊢
            have n0 := fun z : BelW X => (show z.w.cell? ⟨nb, 0, none⟩ = some (.string nm) from BelW.range HN.out z 0 _ rfl)
            clear hX hnb hbX HRG hE hnn hsz HNM
            go_wp2_with fail
            refine CK.out.mono ?_
            rintro e w2 ⟨rfl, hnm2⟩
            have HNM2 := Lib.hid (HGO.out _ hnm2)
            clear hnm2 CK HGO
            go_wp2_with fail
            go_roundw
            case rel => exact ⟨k + 1, by omega, by go_num, Lib.hid HNM2.out⟩
            case measure => simp [intOf]; omega
          have i5 : decide ((k : Int) < (ts.length : Int)) = false := decide_eq_false (by omega)
          obtain rfl : k = ts.length := by omega
          have HNM := Lib.hid (NmL.fin HNM.out)
          obtain ⟨ms4, hms4⟩ : ∃ ms : List Mk, (ms3 ++ mks town2G Tw.nm ts) = ms := ⟨_, rfl⟩
          rw [hms4] at HRES HNM
          have HLN := Lib.hid (show ms4.length ≤ 4000 by rw [← hms4]; have := HLN.out; simp only [List.length_append, mks, List.length_map]; omega)
          have HNM := Lib.hid (NmS.on HNM.out shelterG Sh.nm ss)
          clear hms4
          have cb4 := B_shelter.out _ HNM.out.bel
          go_wp2_with fail
          go_loopw [72] (fun s72 wr => NmL V mb (mb + 1) (mb + 1 + 1) shelterG (Sh.nm) ss ms4 s72 wr) (fun i _ => ss.length - (intOf i).toNat)
          case atStart => exact ⟨0, by omega, rfl, Lib.hid HNM.out⟩
          case round =>
            clear HNM cb4
            obtain ⟨k, hk, rfl, hnm⟩ := hrel
            have HNM := Lib.hid hnm.out
            clear hnm
            by_cases hlt : k < ss.length
            case pos =>
              have i4 : decide ((k : Int) < (ss.length : Int)) = true := decide_eq_true (by omega)
              have j1 : (0 : Int) ≤ (k : Int) := by omega
              have j2 : (k : Int) < (ss.length : Int) := by omega
              have HGO := Lib.hid (fun (W : World) h => NmL.go (V := V) (mb := mb) (sb := mb + 1) (kb := mb + 1 + 1) (g := shelterG) (nmf := Sh.nm) (ms := ms4) (w := W) hlt h)
              have hsz := Z_shelter.out _ (List.getElem_mem hlt)
              have hnn := HNN.out ms4 (by have := HLN.out; omega) k (by omega)
              obtain ⟨rd, rb0, ro, rfl, hbs, hE, hrt⟩ := Rd.row shc 2 (fun _ => rfl) (by omega) (H_shelter.out _ HNM.out.bel) hlt
              obtain ⟨X, hX⟩ : ∃ X, ss[k] = X := ⟨_, rfl⟩
              rw [hX] at hrt HGO hsz
              clear hX hbs
              obtain ⟨nm, room⟩ := X
              simp only at hsz HGO
              have HRG := Lib.hid (show wr.rangeAt rb0 ro [.string nm, .int .i64 room] from hrt)
              clear hrt
              go_upto_region 27 with (first
                | (with_reducible refine wpList_load_g 164 _ (by with_reducible rfl) rb0 ro (by with_unfolding_all rfl) (by with_unfolding_all rfl) _ _ HRG.out Tryz.underlying164 (by with_unfolding_all rfl) (by kernel_rfl) ?_)
                | (with_reducible refine wpList_store_new (z := [.string ⟨#[]⟩, .int .i64 0]) (cs := [.string nm, .int .i64 room]) 164 _ _ (by with_reducible rfl) (by with_unfolding_all rfl) wr.heap.size (by with_reducible rfl) _ (by with_unfolding_all rfl) (by with_unfolding_all rfl) (by with_unfolding_all rfl) (by kernel_rfl) (by with_unfolding_all rfl) ?_))
              refine wp_rebase _ (fun X hX x1 => ?_)
              have hbX : Below wr.heap.size wr X := by rw [hX]; exact bel_alloc (Below.refl _ _) _
              have HN := Lib.hid (show X.rangeAt wr.heap.size 0 [.string nm, .int .i64 room] by rw [hX]; exact range_new wr 164 [.string nm, .int .i64 room])
              have CK := Lib.hid (check_is V mb (mb + 1) (mb + 1 + 1) (ms4.length + k) _ shelterG nm (by decide) hsz hnn x1.w ((HNM.out.next hbX).next (w' := x1.w) x1.2))
              obtain ⟨nb, hnb⟩ : ∃ n, wr.heap.size = n := ⟨_, rfl⟩
              rw [hnb] at HN ⊢
              have n0 := fun z : BelW X => (show z.w.cell? ⟨nb, 0, none⟩ = some (.string nm) from BelW.range HN.out z 0 _ rfl)
              clear hX hnb hbX HRG hE hnn hsz HNM
              go_wp2_with fail
              refine CK.out.mono ?_
              rintro e w2 ⟨rfl, hnm2⟩
              have HNM2 := Lib.hid (HGO.out _ hnm2)
              clear hnm2 CK HGO
              go_wp2_with fail
              go_roundw
              case rel => exact ⟨k + 1, by omega, by go_num, Lib.hid HNM2.out⟩
              case measure => simp [intOf]; omega
            have i5 : decide ((k : Int) < (ss.length : Int)) = false := decide_eq_false (by omega)
            obtain rfl : k = ss.length := by omega
            have HNM := Lib.hid (NmL.fin HNM.out)
            obtain ⟨ms5, hms5⟩ : ∃ ms : List Mk, (ms4 ++ mks shelterG Sh.nm ss) = ms := ⟨_, rfl⟩
            rw [hms5] at HRES HNM
            have HLN := Lib.hid (show ms5.length ≤ 5000 by rw [← hms5]; have := HLN.out; simp only [List.length_append, mks, List.length_map]; omega)
            have HNM := Lib.hid (NmS.on HNM.out gaugeG Gg.nm gs')
            clear hms5
            have cb5 := B_gauge.out _ HNM.out.bel
            go_wp2_with fail
            go_loopw [84] (fun s84 wr => NmL V mb (mb + 1) (mb + 1 + 1) gaugeG (Gg.nm) gs' ms5 s84 wr) (fun i _ => gs'.length - (intOf i).toNat)
            case atStart => exact ⟨0, by omega, rfl, Lib.hid HNM.out⟩
            case round =>
              clear HNM cb5
              obtain ⟨k, hk, rfl, hnm⟩ := hrel
              have HNM := Lib.hid hnm.out
              clear hnm
              by_cases hlt : k < gs'.length
              case pos =>
                have i4 : decide ((k : Int) < (gs'.length : Int)) = true := decide_eq_true (by omega)
                have j1 : (0 : Int) ≤ (k : Int) := by omega
                have j2 : (k : Int) < (gs'.length : Int) := by omega
                have HGO := Lib.hid (fun (W : World) h => NmL.go (V := V) (mb := mb) (sb := mb + 1) (kb := mb + 1 + 1) (g := gaugeG) (nmf := Gg.nm) (ms := ms5) (w := W) hlt h)
                have hsz := Z_gauge.out _ (List.getElem_mem hlt)
                have hnn := HNN.out ms5 (by have := HLN.out; omega) k (by omega)
                obtain ⟨rd, rb0, ro, rfl, hbs, hE, hrt⟩ := Rd.row ggc 5 (fun _ => rfl) (by omega) (H_gauge.out _ HNM.out.bel) hlt
                obtain ⟨X, hX⟩ : ∃ X, gs'[k] = X := ⟨_, rfl⟩
                rw [hX] at hrt HGO hsz
                clear hX hbs
                obtain ⟨nm, kind, tgt, err, drf⟩ := X
                simp only at hsz HGO
                have HRG := Lib.hid (show wr.rangeAt rb0 ro [.string nm, .int .i64 kind, .int .i64 tgt, .int .i64 err, .int .i64 drf] from hrt)
                clear hrt
                go_upto_region 32 with (first
                  | (with_reducible refine wpList_load_g 102 _ (by with_reducible rfl) rb0 ro (by with_unfolding_all rfl) (by with_unfolding_all rfl) _ _ HRG.out Tryz.underlying102 (by with_unfolding_all rfl) (by kernel_rfl) ?_)
                  | (with_reducible refine wpList_store_new (z := [.string ⟨#[]⟩, .int .i64 0, .int .i64 0, .int .i64 0, .int .i64 0]) (cs := [.string nm, .int .i64 kind, .int .i64 tgt, .int .i64 err, .int .i64 drf]) 102 _ _ (by with_reducible rfl) (by with_unfolding_all rfl) wr.heap.size (by with_reducible rfl) _ (by with_unfolding_all rfl) (by with_unfolding_all rfl) (by with_unfolding_all rfl) (by kernel_rfl) (by with_unfolding_all rfl) ?_))
                refine wp_rebase _ (fun X hX x1 => ?_)
                have hbX : Below wr.heap.size wr X := by rw [hX]; exact bel_alloc (Below.refl _ _) _
                have HN := Lib.hid (show X.rangeAt wr.heap.size 0 [.string nm, .int .i64 kind, .int .i64 tgt, .int .i64 err, .int .i64 drf] by rw [hX]; exact range_new wr 102 [.string nm, .int .i64 kind, .int .i64 tgt, .int .i64 err, .int .i64 drf])
                have CK := Lib.hid (check_is V mb (mb + 1) (mb + 1 + 1) (ms5.length + k) _ gaugeG nm (by decide) hsz hnn x1.w ((HNM.out.next hbX).next (w' := x1.w) x1.2))
                obtain ⟨nb, hnb⟩ : ∃ n, wr.heap.size = n := ⟨_, rfl⟩
                rw [hnb] at HN ⊢
                have n0 := fun z : BelW X => (show z.w.cell? ⟨nb, 0, none⟩ = some (.string nm) from BelW.range HN.out z 0 _ rfl)
                clear hX hnb hbX HRG hE hnn hsz HNM
                go_wp2_with fail
                refine CK.out.mono ?_
                rintro e w2 ⟨rfl, hnm2⟩
                have HNM2 := Lib.hid (HGO.out _ hnm2)
                clear hnm2 CK HGO
                go_wp2_with fail
                go_roundw
                case rel => exact ⟨k + 1, by omega, by go_num, Lib.hid HNM2.out⟩
                case measure => simp [intOf]; omega
              have i5 : decide ((k : Int) < (gs'.length : Int)) = false := decide_eq_false (by omega)
              obtain rfl : k = gs'.length := by omega
              have HNM := Lib.hid (NmL.fin HNM.out)
              obtain ⟨ms6, hms6⟩ : ∃ ms : List Mk, (ms5 ++ mks gaugeG Gg.nm gs') = ms := ⟨_, rfl⟩
              rw [hms6] at HRES HNM
              have HLN := Lib.hid (show ms6.length ≤ 6000 by rw [← hms6]; have := HLN.out; simp only [List.length_append, mks, List.length_map]; omega)
              have HNM := Lib.hid (NmS.on HNM.out roadG Rv.nm rs)
              clear hms6
              have cb6 := B_road.out _ HNM.out.bel
              go_wp2_with fail
              go_loopw [96] (fun s96 wr => NmL V mb (mb + 1) (mb + 1 + 1) roadG (Rv.nm) rs ms6 s96 wr) (fun i _ => rs.length - (intOf i).toNat)
              case atStart => exact ⟨0, by omega, rfl, Lib.hid HNM.out⟩
              case round =>
                clear HNM cb6
                obtain ⟨k, hk, rfl, hnm⟩ := hrel
                have HNM := Lib.hid hnm.out
                clear hnm
                by_cases hlt : k < rs.length
                case pos =>
                  have i4 : decide ((k : Int) < (rs.length : Int)) = true := decide_eq_true (by omega)
                  have j1 : (0 : Int) ≤ (k : Int) := by omega
                  have j2 : (k : Int) < (rs.length : Int) := by omega
                  have HGO := Lib.hid (fun (W : World) h => NmL.go (V := V) (mb := mb) (sb := mb + 1) (kb := mb + 1 + 1) (g := roadG) (nmf := Rv.nm) (ms := ms6) (w := W) hlt h)
                  have hsz := Z_road.out _ (List.getElem_mem hlt)
                  have hnn := HNN.out ms6 (by have := HLN.out; omega) k (by omega)
                  obtain ⟨rd, rb0, ro, rfl, hbs, hE, hrt⟩ := Rd.row rvc 7 (fun _ => rfl) (by omega) (H_road.out _ HNM.out.bel) hlt
                  obtain ⟨X, hX⟩ : ∃ X, rs[k] = X := ⟨_, rfl⟩
                  rw [hX] at hrt HGO hsz
                  clear hX hbs
                  obtain ⟨nm, fr, to', hrs, flow, by', lim⟩ := X
                  simp only at hsz HGO
                  have HRG := Lib.hid (show wr.rangeAt rb0 ro [.string nm, .int .i64 fr, .int .i64 to', .int .i64 hrs, .int .i64 flow, .int .i64 by', .int .i64 lim] from hrt)
                  clear hrt
                  go_upto_region 37 with (first
                    | (with_reducible refine wpList_load_g 166 _ (by with_reducible rfl) rb0 ro (by with_unfolding_all rfl) (by with_unfolding_all rfl) _ _ HRG.out Tryz.underlying166 (by with_unfolding_all rfl) (by kernel_rfl) ?_)
                    | (with_reducible refine wpList_store_new (z := [.string ⟨#[]⟩, .int .i64 0, .int .i64 0, .int .i64 0, .int .i64 0, .int .i64 0, .int .i64 0]) (cs := [.string nm, .int .i64 fr, .int .i64 to', .int .i64 hrs, .int .i64 flow, .int .i64 by', .int .i64 lim]) 166 _ _ (by with_reducible rfl) (by with_unfolding_all rfl) wr.heap.size (by with_reducible rfl) _ (by with_unfolding_all rfl) (by with_unfolding_all rfl) (by with_unfolding_all rfl) (by kernel_rfl) (by with_unfolding_all rfl) ?_))
                  refine wp_rebase _ (fun X hX x1 => ?_)
                  have hbX : Below wr.heap.size wr X := by rw [hX]; exact bel_alloc (Below.refl _ _) _
                  have HN := Lib.hid (show X.rangeAt wr.heap.size 0 [.string nm, .int .i64 fr, .int .i64 to', .int .i64 hrs, .int .i64 flow, .int .i64 by', .int .i64 lim] by rw [hX]; exact range_new wr 166 [.string nm, .int .i64 fr, .int .i64 to', .int .i64 hrs, .int .i64 flow, .int .i64 by', .int .i64 lim])
                  have CK := Lib.hid (check_is V mb (mb + 1) (mb + 1 + 1) (ms6.length + k) _ roadG nm (by decide) hsz hnn x1.w ((HNM.out.next hbX).next (w' := x1.w) x1.2))
                  obtain ⟨nb, hnb⟩ : ∃ n, wr.heap.size = n := ⟨_, rfl⟩
                  rw [hnb] at HN ⊢
                  have n0 := fun z : BelW X => (show z.w.cell? ⟨nb, 0, none⟩ = some (.string nm) from BelW.range HN.out z 0 _ rfl)
                  clear hX hnb hbX HRG hE hnn hsz HNM
                  go_wp2_with fail
                  refine CK.out.mono ?_
                  rintro e w2 ⟨rfl, hnm2⟩
                  have HNM2 := Lib.hid (HGO.out _ hnm2)
                  clear hnm2 CK HGO
                  go_wp2_with fail
                  go_roundw
                  case rel => exact ⟨k + 1, by omega, by go_num, Lib.hid HNM2.out⟩
                  case measure => simp [intOf]; omega
                have i5 : decide ((k : Int) < (rs.length : Int)) = false := decide_eq_false (by omega)
                obtain rfl : k = rs.length := by omega
                have HNM := Lib.hid (NmL.fin HNM.out)
                have HNM := Lib.hid (show NmS V mb (mb + 1) (mb + 1 + 1) (ms6 ++ mks roadG Rv.nm rs).length ((stOf (ms6 ++ mks roadG Rv.nm rs)).1, R) wr by rw [HRES.out]; exact HNM.out)
                have ck := HNM.out.kbx
                go_wp2_with fail
                go_ret
                exact ⟨rfl, HGB.out _ HNM.out.bel⟩
end Go.Proofs.YtngjakahanmepaaGreatDoor
