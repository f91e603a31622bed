/- rain.Cells. -/
import Derived.Test.YtafnmaojpheppaaRSum
import Derived.Test.YtafnmaojpheppaaKtwo
import Derived.Deep.LoopGhost
namespace Go.Proofs.Ytafnmaojpheppaa
open Go.RowKit
set_option linter.unusedVariables false
set_option linter.unusedSimpArgs false

theorem spCells_set : ∀ (xs : List Sp) (j : Nat) (p : Sp), j < xs.length → ((spCells xs).set (j * 2) (.int .i64 p.1)).set (j * 2 + 1) (.int .i64 p.2) = spCells (xs.set j p)
  | [], _, _, h => absurd h (Nat.not_lt_zero _)
  | x :: xs, 0, p, _ => rfl
  | x :: xs, j + 1, p, h => by
    have ih := spCells_set xs j p (by simpa using h)
    show (((spc x) ++ spCells xs).set ((j + 1) * 2) _).set ((j + 1) * 2 + 1) _ = spc x ++ spCells (xs.set j p)
    rw [← ih, show (j + 1) * 2 = j * 2 + 2 by omega]
    rfl
/-- a row of spans that the call has made and may write -/
def SR (w : World) (B g n : Nat) (xs : List Sp) : Prop := w.ownsRow B 40 2 (.slice (some ⟨g, 0, none⟩) n n) n (spCells xs)
theorem SR.len {w : World} {B g n : Nat} {xs : List Sp} (h : SR w B g n xs) : xs.length = n := by
  have := h.1
  rw [spCells_length] at this
  omega
theorem SR.lt {w : World} {B g n : Nat} {xs : List Sp} (h : SR w B g n xs) : B ≤ g ∧ g < w.heap.size := World.ownsRow.lt h g rfl
theorem SR.fz {w : World} {B g n : Nat} {xs : List Sp} (h : SR w B g n xs) (o : Nat) : w.frozen? ⟨g, o, none⟩ = false := World.ownsRow.frozenAt h o
theorem SR.at {w : World} {B g n j : Nat} {xs : List Sp} (h : SR w B g n xs) (hj : j < n) : w.cell? ⟨g, j * 2, none⟩ = some (.int .i64 (gs xs j).1) ∧ w.cell? ⟨g, j * 2 + 1, none⟩ = some (.int .i64 (gs xs j).2) := by
  have hl := h.len
  have h0 := flat_get spc 2 spc_length xs j 0 (by omega) (by omega)
  have h1 := flat_get spc 2 spc_length xs j 1 (by omega) (by omega)
  rw [gs_at (by omega)]
  refine ⟨?_, ?_⟩
  · rw [World.ownsRow.cellAt h _ (by omega)]; exact h0
  · rw [World.ownsRow.cellAt h _ (by omega)]; exact h1
theorem SR.put {w : World} {B g n j : Nat} {xs : List Sp} (h : SR w B g n xs) (hj : j < n) (p : Sp) : SR ((w.setCell ⟨g, j * 2, none⟩ (.int .i64 p.1)).setCell ⟨g, j * 2 + 1, none⟩ (.int .i64 p.2)) B g n (xs.set j p) := by
  unfold SR
  rw [← spCells_set xs j p (by rw [h.len]; exact hj)]
  exact (World.ownsRow.stored (World.ownsRow.stored h _ _).1 _ _).1
theorem SR.next {w w' : World} {B g n : Nat} {xs : List Sp} (h : SR w B g n xs) (hb : Below w.heap.size w w') : SR w' B g n xs := own_below h hb
theorem made_two : ∀ n : Nat, (madeCells #[Value.int .i64 0, Value.int .i64 0] (n * 2)).toList = spCells (List.replicate n (0, 0)) := by
  intro n
  have h1 : ∀ n : Nat, spCells (List.replicate n (0, 0)) = List.replicate (n * 2) (.int .i64 0) := by
    intro n
    induction n with
    | zero => rfl
    | succ n ih => rw [List.replicate_succ, show (n + 1) * 2 = n * 2 + 1 + 1 by omega, List.replicate_succ, List.replicate_succ, ← ih]; rfl
  rw [h1]
  apply List.ext_getElem?
  intro j
  by_cases hj : j < n * 2
  · have hm : j % 2 = 0 ∨ j % 2 = 1 := by omega
    rcases hm with h | h <;> simp [madeCells, hj, h]
  · simp [madeCells, hj]
/-- the first k filled -/
def fl2 (n k : Nat) (f : Nat → Sp) : List Sp := (List.range n).map fun i => if i < k then f i else (0, 0)
theorem fl2_zero (n : Nat) (f : Nat → Sp) : fl2 n 0 f = List.replicate n (0, 0) := by
  refine List.ext_getElem (by simp [fl2]) fun i h1 h2 => by simp [fl2]
theorem fl2_all (n : Nat) (f : Nat → Sp) : fl2 n n f = (List.range n).map f := by
  refine List.ext_getElem (by simp [fl2]) fun i h1 h2 => ?_
  simp [fl2] at h1 ⊢
  intro h; omega
theorem fl2_set {n k : Nat} {f : Nat → Sp} (h : k < n) : (fl2 n k f).set k (f k) = fl2 n (k + 1) f := by
  refine List.ext_getElem (by simp [fl2]) fun i h1 h2 => ?_
  simp [fl2] at h1 ⊢
  rw [List.getElem_set]
  by_cases e : k = i
  · subst e; rw [if_pos rfl, if_pos (Nat.lt_succ_self _)]
  · rw [if_neg e]
    simp only [List.getElem_map, List.getElem_range]
    by_cases h3 : i < k
    · rw [if_pos h3, if_pos (by omega)]
    · rw [if_neg h3, if_neg (by omega)]
theorem cells_start (G : List Gg) (radar : List Int) (p : Int) (n : Nat) : (List.range n).map (fun i => (radLo (gi radar i) p, radHi (gi radar i) p)) = cellsL G radar p [] n := rfl
theorem cellN_clamp (c : Int) : Xa.clamp c 0 64 = (cellN c : Int) ∧ cellN c ≤ 64 := by
  unfold Xa.clamp cellN
  constructor
  · split <;> (try split) <;> omega
  · omega
theorem gi_neg {p : List Int} {i : Nat} (h : ¬ i < p.length) : gi p i = 0 := by simp [gi, List.getD, show p.length ≤ i by omega]
def GgOne (x : Gg) : Prop := (ggc x).all (·.oneCell') = true ∧ Fit x.tgt
def CaR1 (V : World) (n g : Nat) (f : Nat → Sp) (s23 : Value) (wr : World) : Prop := ∃ k : Nat, k ≤ n ∧ s23 = .int .i64 (k : Int) ∧ ∃ y : BelW V, wr = y.w ∧ SR y.w V.heap.size g n (fl2 n k f)
def CaR2 (V : World) (G : List Gg) (radar : List Int) (p : Int) (rs : List Rg) (n g : Nat) (s43 : Value) (wr : World) : Prop := ∃ k : Nat, k ≤ rs.length ∧ s43 = .int .i64 (k : Int) ∧ ∃ y : BelW V, wr = y.w ∧ SR y.w V.heap.size g n (cellsL G radar p (rs.take k) n)
theorem rd_row {A : Option Addr} {l : List Int} {w : World} (h : Rd w A (ints l)) {k : Nat} (hk : k < l.length) : ∃ ad, A = some ad ∧ w.cell? (ad.add k) = some (.int .i64 (gi l k)) := by
  obtain ⟨ad, u, e, _, hu, hc⟩ := h.at (k := k) (by rw [ints_length]; exact hk)
  rw [ints_at hk] at hu
  cases hu
  exact ⟨ad, e, hc⟩

set_option maxHeartbeats 64000000 in
set_option maxRecDepth 100000 in
theorem cells_any (GA RA SA : Option Addr) (gc rc sc : Nat) (G : List Gg) (radar : List Int) (rs : List Rg) (cn p : Int) (d0 d1 d3 d4 d5 d7 d8 d9 d10 : Value) (hrn : radar.length ≤ 9223372036854775807) (hsn : rs.length ≤ 9223372036854775807) (hgn : G.length ≤ 9223372036854775807) (hp : Fit p) (hok : ∀ r ∈ rs, RgOk r) (hone : ∀ x ∈ G, GgOne x) (w : World)
    (hG : Rd w GA (ggCells G)) (hR : Rd w RA (ints radar)) (hS : Rd w SA (rgCells rs)) :
    Calls Try.prog 11 #[.agg #[d0, d1, .int .i64 cn, d3, d4, d5, .slice GA G.length gc, d7, d8, d9, d10], .slice RA radar.length rc, .int .i64 p, .slice SA rs.length sc] w (SpPost (cellsL G radar p rs (cellN cn)) w) := by
  obtain ⟨i0, hi0, hz0, hz1, hz2⟩ := info_parts info_span
  obtain ⟨hcl, hcn⟩ := cellN_clamp cn
  obtain ⟨n, hn⟩ : ∃ n, cellN cn = n := ⟨_, rfl⟩
  rw [hn] at hcl hcn ⊢
  clear hn
  have hmk : i0.bytes * n ≤ 281474976710656 := by rw [hz2]; omega
  have hml : n ≤ maxLen := by unfold maxLen; omega
  have INF := Lib.hid (And.intro hi0 (And.intro hz0 (And.intro hz1 (And.intro hmk hml))))
  have C1 := Lib.hid (fun W => clamp_any cn 0 64 W)
  rw [hcl] at C1
  clear hi0 hz0 hz1 hz2 hmk hml hcl
  go_enter Try.func11, Try.ntmps11
  go_upto_region 1 with fail
  refine wp_rebase _ (fun V hV x0 => ?_)
  have HB0 := Lib.hid (show Below w.heap.size w V by rw [hV]; exact bel_alloc (Below.refl _ _) _)
  have HC2 := Lib.hid (show V.cell? ⟨w.heap.size, 2, none⟩ = some (.int .i64 cn) by rw [hV, World.cell?_alloc_at _ _ _ _ rfl]; rfl)
  have HC6 := Lib.hid (show V.cell? ⟨w.heap.size, 6, none⟩ = some (.slice GA G.length gc) by rw [hV, World.cell?_alloc_at _ _ _ _ rfl]; rfl)
  have HG := Lib.hid (hG.below (Nat.le_refl _) HB0.out)
  have HR := Lib.hid (hR.below (Nat.le_refl _) HB0.out)
  have HS := Lib.hid (hS.below (Nat.le_refl _) HB0.out)
  have HL := Lib.hid (And.intro hok hone)
  have HPF := Lib.hid hp
  have cb2 := BelW.cells HC2.out x0
  clear hV hG hR hS hok hone hp
  go_wp2_with (first | (go_at_call 17; with_reducible refine (C1.out _).mono ?_; rintro e w' ⟨rfl, rfl⟩) | (at_make; refine wpList_make_full _ rfl _ _ 33 rfl V.heap.size 40 i0 (.agg #[.int .i64 0, .int .i64 0]) 2 Try.underlying33 INF.out.1 INF.out.2.1 INF.out.2.2.1 _ _ _ _ n (by rfl) (by rfl) (by rfl) (by rfl) INF.out.2.2.2.1 INF.out.2.2.2.2 x0.2.size ?_))
  intro w1 hown1 hg1
  have HR1 := Lib.hid (show SR w1 V.heap.size x0.w.heap.size n (fl2 n 0 (fun i => (radLo (gi radar i) p, radHi (gi radar i) p))) by
    unfold SR
    rw [fl2_zero, ← made_two]
    exact hown1)
  have HB1 := Lib.hid (show Below V.heap.size V w1 from below_grown x0.2 hg1 (fun k hk => by cases hk))
  clear hown1 hg1 cb2 C1
  obtain ⟨g, hg⟩ : ∃ g, x0.w.heap.size = g := ⟨_, rfl⟩
  rw [hg] at HR1 ⊢
  clear hg
  go_wp2_with fail
  go_loopw [23] (fun s23 wr => CaR1 V n g (fun i => (radLo (gi radar i) p, radHi (gi radar i) p)) s23 wr) (fun i _ => n - (intOf i).toNat)
  case atStart => exact ⟨0, by omega, rfl, ⟨w1, HB1.out⟩, rfl, HR1.out⟩
  case round =>
    obtain ⟨k, hk, rfl, y, rfl, hI⟩ := hrel
    have HBy := Lib.hid (show Below V.heap.size V y.w from y.2)
    by_cases hlt : k < n
    · have i4 : decide ((k : Int) < (n : Int)) = true := decide_eq_true (by omega)
      have j1 : (0 : Int) ≤ (k : Int) := by omega
      have j2 : (k : Int) < (n : Int) := by omega
      have HI := Lib.hid hI
      have HST := Lib.hid (fun (y2 : World) (hb : Below y.w.heap.size y.w y2) => (show CaR1 V n g (fun i => (radLo (gi radar i) p, radHi (gi radar i) p)) (.int .i64 ((k : Int) + 1)) ((y2.setCell ⟨g, k * 2, none⟩ (.int .i64 (radLo (gi radar k) p))).setCell ⟨g, k * 2 + 1, none⟩ (.int .i64 (radHi (gi radar k) p))) from
        ⟨k + 1, by omega, by go_num, ⟨_, ((below_next HBy.out hb).setCell (by exact HI.out.lt.1) _).setCell (by exact HI.out.lt.1) _⟩, rfl, by
          have := (HI.out.next hb).put hlt (radLo (gi radar k) p, radHi (gi radar k) p)
          rw [fl2_set (f := fun i => (radLo (gi radar i) p, radHi (gi radar i) p)) hlt] at this
          exact this⟩))
      obtain ⟨rl, hrl⟩ : ∃ x, radLo (gi radar k) p = x := ⟨_, rfl⟩
      obtain ⟨rh, hrh⟩ : ∃ x, radHi (gi radar k) p = x := ⟨_, rfl⟩
      have C2 := Lib.hid (fun W : World => rad_any (gi radar k) p HPF.out W)
      rw [hrl, hrh] at C2 HST
      obtain ⟨u0, hu0⟩ : ∃ x, (gs (fl2 n k (fun i => (radLo (gi radar i) p, radHi (gi radar i) p))) k).1 = x := ⟨_, rfl⟩
      obtain ⟨u1, hu1⟩ : ∃ x, (gs (fl2 n k (fun i => (radLo (gi radar i) p, radHi (gi radar i) p))) k).2 = x := ⟨_, rfl⟩
      have HQ := Lib.hid (fun (W : World) (hb : Below y.w.heap.size y.w W) => (show W.cell? ⟨g, k * 2, none⟩ = some (.int .i64 u0) ∧ W.cell? ⟨g, k * 2 + 1, none⟩ = some (.int .i64 u1) from by
        have := (HI.out.next hb).at hlt
        rw [hu0, hu1] at this
        exact this))
      clear hrl hrh hu0 hu1 hI
      by_cases hr : k < radar.length
      · have t1 : decide ((k : Int) < (radar.length : Int)) = true := decide_eq_true (by omega)
        have j3 : (k : Int) < (radar.length : Int) := by omega
        obtain ⟨rd, hrd, e1⟩ := rd_row (HR.out.bel y) hr
        subst hrd
        obtain ⟨v, hv⟩ : ∃ v, gi radar k = v := ⟨_, rfl⟩
        rw [hv] at e1 C2
        clear hv
        go_upto_region 8 with fail
        refine wp_rebase _ (fun V8 hV8 x8 => ?_)
        have HB8 := Lib.hid (show Below y.w.heap.size y.w V8 by rw [hV8]; exact Below.refl _ _)
        have q0 := fun z : BelW V8 => (HQ.out z.w (below_next HB8.out z.2)).1
        have q1 := fun z : BelW V8 => (HQ.out z.w (below_next HB8.out z.2)).2
        have q2 := fun z : BelW V8 => (show ∀ o, z.w.frozen? ⟨g, o, none⟩ = false from (HI.out.next (below_next HB8.out z.2)).fz)
        have C3 := Lib.hid (fun z : BelW V8 => bel_of (C2.out z.w))
        clear hV8 C2
        go_wp2_with (first | (go_at_call 27; (with_reducible refine (C3.out _).mono ?_); rintro e w' ⟨rfl, z, rfl⟩))
        go_roundw
        case rel => exact HST.out z.w (below_next HB8.out z.2)
        case measure => simp [intOf]; omega
      · have t1 : decide ((k : Int) < (radar.length : Int)) = false := decide_eq_false (by omega)
        rw [gi_neg hr] at C2
        go_upto_region 8 with fail
        refine wp_rebase _ (fun V8 hV8 x8 => ?_)
        have HB8 := Lib.hid (show Below y.w.heap.size y.w V8 by rw [hV8]; exact Below.refl _ _)
        have q0 := fun z : BelW V8 => (HQ.out z.w (below_next HB8.out z.2)).1
        have q1 := fun z : BelW V8 => (HQ.out z.w (below_next HB8.out z.2)).2
        have q2 := fun z : BelW V8 => (show ∀ o, z.w.frozen? ⟨g, o, none⟩ = false from (HI.out.next (below_next HB8.out z.2)).fz)
        have C3 := Lib.hid (fun z : BelW V8 => bel_of (C2.out z.w))
        clear hV8 C2
        go_wp2_with (first | (go_at_call 27; (with_reducible refine (C3.out _).mono ?_); rintro e w' ⟨rfl, z, rfl⟩))
        go_roundw
        case rel => exact HST.out z.w (below_next HB8.out z.2)
        case measure => simp [intOf]; omega
    · have i4 : decide ((k : Int) < (n : Int)) = false := decide_eq_false (by omega)
      obtain rfl : k = n := by omega
      rw [fl2_all, cells_start G] at hI
      have HI := Lib.hid hI
      clear hI HR1 HB1
      go_wp2_with fail
      go_loopw [43] (fun s43 wr => CaR2 V G radar p rs k g s43 wr) (fun i _ => rs.length - (intOf i).toNat)
      case atStart => exact ⟨0, by omega, rfl, y, rfl, HI.out⟩
      case round =>
        clear HI HBy y
        obtain ⟨m, hm, rfl, y, rfl, hI⟩ := hrel
        by_cases hlm : m < rs.length
        · have i5 : decide ((m : Int) < (rs.length : Int)) = true := decide_eq_true (by omega)
          have m1 : (0 : Int) ≤ (m : Int) := by omega
          have m2 : (m : Int) < (rs.length : Int) := by omega
          obtain ⟨sd, sb, so, rfl, hbs, hE, hrg⟩ := (HS.out.bel y).reading hlm
          have HNone := Lib.hid (fun h => cells_none (G := G) (radar := radar) (p := p) (n := k) hlm h)
          have HPut := Lib.hid (fun t h1 h2 => cells_put (G := G) (radar := radar) (p := p) (n := k) (t := t) hlm h1 h2)
          obtain ⟨r, hr⟩ : ∃ r, rg rs m = r := ⟨_, rfl⟩
          rw [hr] at hrg HNone HPut
          clear hr
          obtain ⟨rg0, rhr, rlo, rhi⟩ := r
          have HRG := Lib.hid (show y.w.rangeAt sb so [.int .i64 rg0, .int .i64 rhr, .int .i64 rlo, .int .i64 rhi] from hrg)
          have HI := Lib.hid hI
          clear hrg hbs hI
          go_upto_region 13 with (first
            | (with_reducible refine wpList_load_g 47 _ (by with_reducible rfl) sb so (by with_unfolding_all rfl) (by with_unfolding_all rfl) _ _ HRG.out Try.underlying47 (by with_unfolding_all rfl) (by kernel_rfl) ?_))
          refine wp_rebase _ (fun V1 hV1 x1 => ?_)
          have HB1 := Lib.hid (show Below y.w.heap.size y.w V1 by rw [hV1]; exact bel_alloc (Below.refl _ _) _)
          have a0 : ∀ z : BelW V1, z.w.cell? ⟨y.w.heap.size, 0, none⟩ = some (.int .i64 rg0) := fun z => BelW.cells (by rw [hV1, World.cell?_alloc_at _ _ _ _ rfl]; rfl) z
          have a2 : ∀ z : BelW V1, z.w.cell? ⟨y.w.heap.size, 2, none⟩ = some (.int .i64 rlo) := fun z => BelW.cells (by rw [hV1, World.cell?_alloc_at _ _ _ _ rfl]; rfl) z
          have a3 : ∀ z : BelW V1, z.w.cell? ⟨y.w.heap.size, 3, none⟩ = some (.int .i64 rhi) := fun z => BelW.cells (by rw [hV1, World.cell?_alloc_at _ _ _ _ rfl]; rfl) z
          have b6 : ∀ z : BelW V1, z.w.cell? ⟨w.heap.size, 6, none⟩ = some (.slice GA G.length gc) := fun z => BelW.cells (HC6.out) (⟨z.w, below_next y.2 (below_next HB1.out z.2)⟩ : BelW V)
          clear hV1 hE HRG
          have HNO := Lib.hid (show (∀ i, i < k → ¬ (ofR G ⟨rg0, rhr, rlo, rhi⟩ i ∧ meets (cellAt G radar p (rs.take m) i) ⟨rg0, rhr, rlo, rhi⟩)) → ∀ z : World, Below V1.heap.size V1 z → CaR2 V G radar p rs k g (.int .i64 ((m : Int) + 1)) z from fun hno z hz => ⟨m + 1, by omega, by go_num, ⟨z, below_next y.2 (below_next HB1.out hz)⟩, rfl, by
            rw [HNone.out hno]
            exact (HI.out.next HB1.out).next hz⟩)
          have CR := Lib.hid (fun z : BelW V1 => bel_of (right_any rlo rhi z.w))
          by_cases d1 : rg0 < 0
          · have t1 : decide (rg0 < 0) = true := decide_eq_true d1
            have HX := Lib.hid (HNO.out (fun i hi h => by have := h.1.1; have h2 : 0 ≤ rg0 := this; omega))
            clear d1 HNO HPut CR
            go_wp2_with fail
            go_roundw
            case rel => exact HX.out _ x1.2
            case measure => simp [intOf]; omega
          have t1 : decide (rg0 < 0) = false := decide_eq_false d1
          obtain ⟨q, rfl⟩ := Int.eq_ofNat_of_zero_le (show 0 ≤ rg0 by omega)
          by_cases d2 : q < G.length
          case neg =>
            have t2 : decide ((G.length : Int) ≤ (q : Int)) = true := decide_eq_true (by omega)
            have HX := Lib.hid (HNO.out (fun i hi h => by have := h.1.2.1; have h2 : (q : Int) < (G.length : Int) := this; omega))
            clear d1 HNO HPut CR
            go_wp2_with fail
            go_roundw
            case rel => exact HX.out _ x1.2
            case measure => simp [intOf]; omega
          have t2 : decide ((G.length : Int) ≤ (q : Int)) = false := decide_eq_false (by omega)
          by_cases d3 : rlo ≤ rhi
          case neg =>
            have t3 : decide (rlo ≤ rhi) = false := decide_eq_false d3
            have HX := Lib.hid (HNO.out (fun i hi h => d3 h.2.1))
            rw [t3] at CR
            clear d1 d3 HNO HPut
            go_wp2_with (first | (go_at_call 22; (with_reducible refine (CR.out _).mono ?_); rintro e w' ⟨rfl, z, rfl⟩))
            go_roundw
            case rel => exact HX.out _ z.2
            case measure => simp [intOf]; omega
          have t3 : decide (rlo ≤ rhi) = true := decide_eq_true d3
          rw [t3] at CR
          have j5 : (0 : Int) ≤ (q : Int) := by omega
          have j6 : (q : Int) < (G.length : Int) := by omega
          obtain ⟨gd, gb, go, rfl, hbs, hE2, hgg⟩ := ((HG.out.bel y).below (Nat.le_refl _) HB1.out).gauge d2
          have hof := fun (i : Nat) (h : ofR G ⟨(q : Int), rhr, rlo, rhi⟩ i) => (show (gg G q).kind = 1 ∧ (gg G q).tgt = (i : Int) from h.2.2)
          have hofi := fun (i : Nat) (h1 : (gg G q).kind = 1) (h2 : (gg G q).tgt = (i : Int)) => (show ofR G ⟨(q : Int), rhr, rlo, rhi⟩ i from ⟨j5, j6, h1, h2⟩)
          have hG1 := HL.out.2 G[q] (List.getElem_mem d2)
          rw [← gg_at d2] at hG1
          obtain ⟨gv, hgv⟩ : ∃ x, gg G q = x := ⟨_, rfl⟩
          rw [hgv] at hgg hof hofi hG1
          clear hgv
          obtain ⟨gnm, gk, gt, ge, gd5⟩ := gv
          have HGG := Lib.hid (fun z : BelW V1 => (show z.w.rangeAt gb go [gnm, .int .i64 gk, .int .i64 gt, ge, gd5] from fun j v hv => BelW.cells (hgg j v hv) z))
          have HON := Lib.hid (show ([gnm, .int .i64 gk, .int .i64 gt, ge, gd5] : List Value).all (·.oneCell') = true from hG1.1)
          have HOF := Lib.hid (And.intro hof hofi)
          have hgt : Fit gt := hG1.2
          clear hgg hof hofi hG1 hbs d1
          go_upto_region 15 with (first
            | (go_at_call 22; (with_reducible refine (CR.out _).mono ?_); rintro e w' ⟨rfl, z1, rfl⟩)
            | (with_reducible refine wpList_load_g 67 _ (by with_reducible rfl) gb go (by with_unfolding_all rfl) (by with_unfolding_all rfl) _ _ (HGG.out z1) Try.underlying67 (by with_unfolding_all rfl) (by kernel_rfl) ?_)
            | (with_reducible refine wpList_store_new (z := [.string ⟨#[]⟩, .int .i64 0, .int .i64 0, .int .i64 0, .int .i64 0]) (cs := [gnm, .int .i64 gk, .int .i64 gt, ge, gd5]) 67 _ _ (by with_reducible rfl) (by with_unfolding_all rfl) z1.w.heap.size (by with_reducible rfl) _ (by with_unfolding_all rfl) (by with_unfolding_all rfl) (by with_unfolding_all rfl) (by kernel_rfl) HON.out ?_))
          refine wp_rebase _ (fun V2 hV2 x2 => ?_)
          have HB2 := Lib.hid (show Below V1.heap.size V1 V2 by rw [hV2]; exact bel_alloc z1.2 _)
          have u1 : ∀ z : BelW V2, z.w.cell? ⟨z1.w.heap.size, 1, none⟩ = some (.int .i64 gk) := fun z => BelW.cells (by rw [hV2, World.cell?_alloc_at _ _ _ _ rfl]; rfl) z
          have u2 : ∀ z : BelW V2, z.w.cell? ⟨z1.w.heap.size, 2, none⟩ = some (.int .i64 gt) := fun z => BelW.cells (by rw [hV2, World.cell?_alloc_at _ _ _ _ rfl]; rfl) z
          have u3 : ∀ z : BelW V2, z.w.cell? ⟨y.w.heap.size, 2, none⟩ = some (.int .i64 rlo) := fun z => a2 (⟨z.w, below_next HB2.out z.2⟩ : BelW V1)
          have u4 : ∀ z : BelW V2, z.w.cell? ⟨y.w.heap.size, 3, none⟩ = some (.int .i64 rhi) := fun z => a3 (⟨z.w, below_next HB2.out z.2⟩ : BelW V1)
          have HNO2 := Lib.hid (show (∀ i, i < k → ¬ (ofR G ⟨(q : Int), rhr, rlo, rhi⟩ i ∧ meets (cellAt G radar p (rs.take m) i) ⟨(q : Int), rhr, rlo, rhi⟩)) → ∀ z : World, Below V2.heap.size V2 z → CaR2 V G radar p rs k g (.int .i64 ((m : Int) + 1)) z from fun h z hz => HNO.out h z (below_next HB2.out hz))
          have HI2 := Lib.hid ((HI.out.next HB1.out).next HB2.out)
          have HBV := Lib.hid (show Below V.heap.size V V2 from below_next y.2 (below_next HB1.out HB2.out))
          clear hV2 HGG HON HNO hE2 a0 a2 a3 b6 CR HI
          by_cases d4 : gk = 1
          case neg =>
            have t4 : (gk != 1) = true := bne_iff_ne.2 d4
            have HX := Lib.hid (HNO2.out (fun i hi h => d4 (HOF.out.1 i h.1).1))
            clear d4 HNO2 HPut
            go_wp2_with fail
            go_roundw
            case rel => exact HX.out _ x2.2
            case measure => simp [intOf]; omega
          have t4 : (gk != 1) = false := bne_eq_false_iff_eq.2 d4
          have HK4 := Lib.hid d4
          clear d4
          by_cases d5 : gt < 0
          · have t5 : decide (gt < 0) = true := decide_eq_true d5
            have HX := Lib.hid (HNO2.out (fun i hi h => by have := (HOF.out.1 i h.1).2; have h2 : gt = (i : Int) := this; omega))
            clear d5 HNO2 HPut
            go_wp2_with fail
            go_roundw
            case rel => exact HX.out _ x2.2
            case measure => simp [intOf]; omega
          have t5 : decide (gt < 0) = false := decide_eq_false d5
          obtain ⟨t, rfl⟩ := Int.eq_ofNat_of_zero_le (show 0 ≤ gt by omega)
          by_cases d6 : t < k
          case neg =>
            have t6 : decide ((k : Int) ≤ (t : Int)) = true := decide_eq_true (by omega)
            have HX := Lib.hid (HNO2.out (fun i hi h => by have := (HOF.out.1 i h.1).2; have h2 : (t : Int) = (i : Int) := this; omega))
            clear d5 HNO2 HPut
            go_wp2_with fail
            go_roundw
            case rel => exact HX.out _ x2.2
            case measure => simp [intOf]; omega
          have t6 : decide ((k : Int) ≤ (t : Int)) = false := decide_eq_false (by omega)
          have n1 : (0 : Int) ≤ (t : Int) := by omega
          have n2 : (t : Int) < (k : Int) := by omega
          have s0 := fun z : BelW V2 => ((HI2.out.next z.2).at d6).1
          have s1 := fun z : BelW V2 => ((HI2.out.next z.2).at d6).2
          rw [cellsL_at _ _ _ _ d6] at s0 s1
          have HP2 := Lib.hid (fun h2 => HPut.out t (HOF.out.2 t HK4.out rfl) h2)
          have hti : ∀ i, ofR G ⟨(q : Int), rhr, rlo, rhi⟩ i → t = i := fun i h => by
            have e := (HOF.out.1 i h).2
            have e2 : (t : Int) = (i : Int) := e
            omega
          have HNx := Lib.hid (fun (hno : ¬ meets (cellAt G radar p (rs.take m) t) ⟨(q : Int), rhr, rlo, rhi⟩) => HNO2.out (fun i hi h => hno (by rw [hti i h.1]; exact h.2)))
          clear hti
          obtain ⟨c, hc⟩ : ∃ c, cellAt G radar p (rs.take m) t = c := ⟨_, rfl⟩
          rw [hc] at s0 s1 HP2 HNx
          obtain ⟨cl, ch⟩ := c
          have s0' : ∀ z : BelW V2, z.w.cell? ⟨g, t * 2, none⟩ = some (.int .i64 cl) := s0
          have s1' : ∀ z : BelW V2, z.w.cell? ⟨g, t * 2 + 1, none⟩ = some (.int .i64 ch) := s1
          clear s0 s1 hc HPut HNO2 d5
          go_upto_region 16 with fail
          have HS0 := Lib.hid (show ∃ z : BelW V2, x2.w.drew = z.w from ⟨⟨_, x2.2.drew⟩, rfl⟩)
          have CM := Lib.hid (fun z : World => meet_any cl ch rlo rhi z)
          by_cases d7 : max cl rlo ≤ min ch rhi
          · rw [if_pos d7] at CM
            refine wp_region_tail 13 (fun w' => ∃ z : BelW V2, w' = z.w) (by kernel_rfl) (by kernel_rfl) HS0.out ?_
            refine wpK_take (i := 0) (v := ?v0) (by kernel_rfl) rfl (by omega) (by kernel_rfl) (by kernel_rfl) (fun _ _ _ h => h) (Or.inl ⟨by rfl, ?y0⟩) HS0.out ?_
            case y0 => intro w1 hS; (go_simp <;> with_reducible rfl)
            simp only [Act.put, List.setIfInBounds_toArray, List.set_cons_zero, List.set_cons_succ]
            refine wpK_take (i := 1) (v := ?v1) (by kernel_rfl) rfl (by omega) (by kernel_rfl) (by kernel_rfl) (fun _ _ _ h => h) (Or.inl ⟨by rfl, ?y1⟩) HS0.out ?_
            case y1 => intro w1 hS; (go_simp <;> with_reducible rfl)
            simp only [Act.put, List.setIfInBounds_toArray, List.set_cons_zero, List.set_cons_succ]
            refine wpK_take (i := 2) (v := ?v2) (by kernel_rfl) rfl (by omega) (by kernel_rfl) (by kernel_rfl) (fun _ _ _ h => h) (Or.inl ⟨by rfl, ?y2⟩) HS0.out ?_
            case y2 => intro w1 hS; obtain ⟨z, rfl⟩ := hS; (go_simp <;> with_reducible rfl)
            simp only [Act.put, List.setIfInBounds_toArray, List.set_cons_zero, List.set_cons_succ]
            refine wpK_take (i := 3) (v := ?v3) (by kernel_rfl) rfl (by omega) (by kernel_rfl) (by kernel_rfl) (fun _ _ _ h => h) (Or.inl ⟨by rfl, ?y3⟩) HS0.out ?_
            case y3 => intro w1 hS; (go_simp <;> with_reducible rfl)
            simp only [Act.put, List.setIfInBounds_toArray, List.set_cons_zero, List.set_cons_succ]
            refine wpK_take (i := 4) (v := ?v4) (by kernel_rfl) rfl (by omega) (by kernel_rfl) (by kernel_rfl) (fun _ _ _ h => h) (Or.inl ⟨by rfl, ?y4⟩) HS0.out ?_
            case y4 => intro w1 hS; obtain ⟨z, rfl⟩ := hS; (go_simp <;> with_reducible rfl)
            simp only [Act.put, List.setIfInBounds_toArray, List.set_cons_zero, List.set_cons_succ]
            refine wpK_take (i := 5) (v := ?v5) (by kernel_rfl) rfl (by omega) (by kernel_rfl) (by kernel_rfl) (fun _ _ _ h => h) (Or.inl ⟨by rfl, ?y5⟩) HS0.out ?_
            case y5 => intro w1 hS; (go_simp <;> with_reducible rfl)
            simp only [Act.put, List.setIfInBounds_toArray, List.set_cons_zero, List.set_cons_succ]
            refine wpK_take (i := 6) (v := ?v6) (by kernel_rfl) rfl (by omega) (by kernel_rfl) (by kernel_rfl) (fun _ _ _ h => h) (Or.inl ⟨by rfl, ?y6⟩) HS0.out ?_
            case y6 => intro w1 hS; obtain ⟨z, rfl⟩ := hS; (go_simp <;> with_reducible rfl)
            simp only [Act.put, List.setIfInBounds_toArray, List.set_cons_zero, List.set_cons_succ]
            refine wpK_two 7 11 rfl rfl (by omega) (by omega) (by kernel_rfl) ?p7 ?p11
            case p7 =>
              go_wp2_with fail
              refine (bel_of (x := (⟨_, x2.2.drew⟩ : BelW V2)) (CM.out _)).mono ?_
              rintro e w' ⟨rfl, ya, rfl⟩
              go_wp2_with fail
              refine ⟨⟨ya, rfl⟩, ?_⟩
              refine wpK_take (i := 8) (v := .tuple #[.agg #[.int .i64 (max cl rlo), .int .i64 (min ch rhi)], .bool true]) (by kernel_rfl) rfl (by omega) (by kernel_rfl) (by kernel_rfl) (fun _ _ _ h => h) (Or.inl ⟨by rfl, ?z8⟩) ⟨ya, rfl⟩ ?_
              case z8 => intro w1 hS; (first | rfl | (go_simp <;> with_reducible rfl) | go_simp)
              simp only [Act.put, List.setIfInBounds_toArray, List.set_cons_zero, List.set_cons_succ]
              refine wpK_take (i := 9) (v := .agg #[.int .i64 (max cl rlo), .int .i64 (min ch rhi)]) (by kernel_rfl) rfl (by omega) (by kernel_rfl) (by kernel_rfl) (fun _ _ _ h => h) (Or.inl ⟨by rfl, ?z9⟩) ⟨ya, rfl⟩ ?_
              case z9 => intro w1 hS; (first | rfl | (go_simp <;> with_reducible rfl) | go_simp)
              simp only [Act.put, List.setIfInBounds_toArray, List.set_cons_zero, List.set_cons_succ]
              refine wpK_take (i := 10) (v := .bool true) (by kernel_rfl) rfl (by omega) (by kernel_rfl) (by kernel_rfl) (fun _ _ _ h => h) (Or.inl ⟨by rfl, ?z10⟩) ⟨ya, rfl⟩ ?_
              case z10 => intro w1 hS; (first | rfl | (go_simp <;> with_reducible rfl) | go_simp)
              simp only [Act.put, List.setIfInBounds_toArray, List.set_cons_zero, List.set_cons_succ]
              refine wpK_one 11 rfl (by omega) (by kernel_rfl) ?_
              go_wp2_with fail
              refine ⟨⟨⟨_, bel_alloc ya.2 _⟩, rfl⟩, ?_⟩
              have HT := Lib.hid (TwoBox.new ya.w (0, 0) 40)
              have HBT := Lib.hid (show Below V2.heap.size V2 (ya.w.alloc (.cells #[.int .i64 0, .int .i64 0] 40)) from bel_alloc ya.2 _)
              have HGB := Lib.hid (show V2.heap.size ≤ ya.w.heap.size from ya.2.size)
              obtain ⟨bx, hbx⟩ : ∃ b, ya.w.heap.size = b := ⟨_, rfl⟩
              obtain ⟨W, hW⟩ : ∃ W, ya.w.alloc (.cells #[.int .i64 0, .int .i64 0] 40) = W := ⟨_, rfl⟩
              rw [hbx] at HT HGB ⊢
              rw [hW] at HT HBT ⊢
              clear hbx hW
              have r0 : W.cell? ⟨bx, 0, none⟩ = some (.int .i64 0) := HT.out.lo
              have r1 : W.cell? ⟨bx, 1, none⟩ = some (.int .i64 0) := HT.out.hi
              have r2 := HT.out.fz
              refine wpK_one 12 rfl (by omega) (by kernel_rfl) ?_
              go_wp2_with fail
              refine ⟨⟨⟨_, (HBT.out.setCell (by exact HGB.out) _).setCell (by exact HGB.out) _⟩, rfl⟩, wpK_done (by kernel_rfl) ?_⟩
              simp only [List.drop_succ_cons, List.drop_zero]
              go_upto_region 17 with fail
              refine wp_rebase _ (fun V5 hV5 x5 => ?_)
              have HT5 := Lib.hid (show TwoBox V5 bx (max cl rlo, min ch rhi) by rw [hV5]; exact HT.out.set (max cl rlo, min ch rhi))
              have HB5 := Lib.hid (show Below V2.heap.size V2 V5 by rw [hV5]; exact (HBT.out.setCell (by exact HGB.out) _).setCell (by exact HGB.out) _)
              have h0 : x5.w.cell? ⟨bx, 0, none⟩ = some (.int .i64 (max cl rlo)) := (HT5.out.bel x5).lo
              have h1 : x5.w.cell? ⟨bx, 1, none⟩ = some (.int .i64 (min ch rhi)) := (HT5.out.bel x5).hi
              have v2 := u2 (⟨x5.w, below_next HB5.out x5.2⟩ : BelW V2)
              have v3 := s0' (⟨x5.w, below_next HB5.out x5.2⟩ : BelW V2)
              have v4 := s1' (⟨x5.w, below_next HB5.out x5.2⟩ : BelW V2)
              have HI5 := Lib.hid (show SR x5.w V.heap.size g k (cellsL G radar p (rs.take m) k) from (HI2.out.next HB5.out).next x5.2)
              have v5 := HI5.out.fz
              have v2' : x5.w.cell? ⟨z1.w.heap.size, 2, none⟩ = some (.int .i64 (t : Int)) := v2
              have v3' : x5.w.cell? ⟨g, t * 2, none⟩ = some (.int .i64 cl) := v3
              have v4' : x5.w.cell? ⟨g, t * 2 + 1, none⟩ = some (.int .i64 ch) := v4
              have HX := Lib.hid (show CaR2 V G radar p rs k g (.int .i64 ((m : Int) + 1)) ((x5.w.setCell ⟨g, t * 2, none⟩ (.int .i64 (max cl rlo))).setCell ⟨g, t * 2 + 1, none⟩ (.int .i64 (min ch rhi))) from
                ⟨m + 1, by omega, by go_num, ⟨_, ((below_next HBV.out (below_next HB5.out x5.2)).setCell (by exact HI5.out.lt.1) _).setCell (by exact HI5.out.lt.1) _⟩, rfl, by
                  rw [HP2.out ⟨d3, d7⟩]
                  exact HI5.out.put d6 (max cl rlo, min ch rhi)⟩)
              clear hV5 r0 r1 r2 u1 u2 u3 u4 s0' s1' v2 v3 v4
              go_wp2_with fail
              go_roundw
              case rel => exact HX.out
              case measure => simp [intOf]; omega
            case p11 =>
              go_wp2_with fail
              refine ⟨⟨⟨_, bel_alloc x2.2.drew _⟩, rfl⟩, ?_⟩
              refine wpK_one 7 rfl (by omega) (by kernel_rfl) ?_
              have HT0 := Lib.hid (TwoBox.new x2.w.drew (0, 0) 40)
              have HBT0 := Lib.hid (show Below V2.heap.size V2 (x2.w.drew.alloc (.cells #[.int .i64 0, .int .i64 0] 40)) from bel_alloc x2.2.drew _)
              have HGB := Lib.hid (show V2.heap.size ≤ x2.w.drew.heap.size from x2.2.size)
              go_wp2_with fail
              refine (CM.out _).mono ?_
              rintro e W ⟨rfl, hb⟩
              have HT := Lib.hid (show TwoBox W x2.w.drew.heap.size (0, 0) from HT0.out.bel ⟨W, hb⟩)
              have HBT := Lib.hid (below_next HBT0.out hb)
              clear hb HT0 HBT0
              go_wp2_with fail
              refine ⟨⟨⟨W, HBT.out⟩, rfl⟩, ?_⟩
              have hbx0 : x2.w.drew.heap.size = x2.w.heap.size := rfl
              rw [hbx0] at HT HGB
              obtain ⟨bx, hbx⟩ : ∃ b, x2.w.heap.size = b := ⟨_, rfl⟩
              rw [hbx] at HT HGB ⊢
              clear hbx hbx0
              refine wpK_take (i := 8) (v := .tuple #[.agg #[.int .i64 (max cl rlo), .int .i64 (min ch rhi)], .bool true]) (by kernel_rfl) rfl (by omega) (by kernel_rfl) (by kernel_rfl) (fun _ _ _ h => h) (Or.inl ⟨by rfl, ?z8⟩) ⟨⟨W, HBT.out⟩, rfl⟩ ?_
              case z8 => intro w1 hS; (first | rfl | (go_simp <;> with_reducible rfl) | go_simp)
              simp only [Act.put, List.setIfInBounds_toArray, List.set_cons_zero, List.set_cons_succ]
              refine wpK_take (i := 9) (v := .agg #[.int .i64 (max cl rlo), .int .i64 (min ch rhi)]) (by kernel_rfl) rfl (by omega) (by kernel_rfl) (by kernel_rfl) (fun _ _ _ h => h) (Or.inl ⟨by rfl, ?z9⟩) ⟨⟨W, HBT.out⟩, rfl⟩ ?_
              case z9 => intro w1 hS; (first | rfl | (go_simp <;> with_reducible rfl) | go_simp)
              simp only [Act.put, List.setIfInBounds_toArray, List.set_cons_zero, List.set_cons_succ]
              refine wpK_take (i := 10) (v := .bool true) (by kernel_rfl) rfl (by omega) (by kernel_rfl) (by kernel_rfl) (fun _ _ _ h => h) (Or.inl ⟨by rfl, ?z10⟩) ⟨⟨W, HBT.out⟩, rfl⟩ ?_
              case z10 => intro w1 hS; (first | rfl | (go_simp <;> with_reducible rfl) | go_simp)
              simp only [Act.put, List.setIfInBounds_toArray, List.set_cons_zero, List.set_cons_succ]
              have r0 : W.cell? ⟨bx, 0, none⟩ = some (.int .i64 0) := HT.out.lo
              have r1 : W.cell? ⟨bx, 1, none⟩ = some (.int .i64 0) := HT.out.hi
              have r2 := HT.out.fz
              refine wpK_one 12 rfl (by omega) (by kernel_rfl) ?_
              go_wp2_with fail
              refine ⟨⟨⟨_, (HBT.out.setCell (by exact HGB.out) _).setCell (by exact HGB.out) _⟩, rfl⟩, wpK_done (by kernel_rfl) ?_⟩
              simp only [List.drop_succ_cons, List.drop_zero]
              go_upto_region 17 with fail
              refine wp_rebase _ (fun V5 hV5 x5 => ?_)
              have HT5 := Lib.hid (show TwoBox V5 bx (max cl rlo, min ch rhi) by rw [hV5]; exact HT.out.set (max cl rlo, min ch rhi))
              have HB5 := Lib.hid (show Below V2.heap.size V2 V5 by rw [hV5]; exact (HBT.out.setCell (by exact HGB.out) _).setCell (by exact HGB.out) _)
              have h0 : x5.w.cell? ⟨bx, 0, none⟩ = some (.int .i64 (max cl rlo)) := (HT5.out.bel x5).lo
              have h1 : x5.w.cell? ⟨bx, 1, none⟩ = some (.int .i64 (min ch rhi)) := (HT5.out.bel x5).hi
              have v2 := u2 (⟨x5.w, below_next HB5.out x5.2⟩ : BelW V2)
              have v3 := s0' (⟨x5.w, below_next HB5.out x5.2⟩ : BelW V2)
              have v4 := s1' (⟨x5.w, below_next HB5.out x5.2⟩ : BelW V2)
              have HI5 := Lib.hid (show SR x5.w V.heap.size g k (cellsL G radar p (rs.take m) k) from (HI2.out.next HB5.out).next x5.2)
              have v5 := HI5.out.fz
              have v2' : x5.w.cell? ⟨z1.w.heap.size, 2, none⟩ = some (.int .i64 (t : Int)) := v2
              have v3' : x5.w.cell? ⟨g, t * 2, none⟩ = some (.int .i64 cl) := v3
              have v4' : x5.w.cell? ⟨g, t * 2 + 1, none⟩ = some (.int .i64 ch) := v4
              have HX := Lib.hid (show CaR2 V G radar p rs k g (.int .i64 ((m : Int) + 1)) ((x5.w.setCell ⟨g, t * 2, none⟩ (.int .i64 (max cl rlo))).setCell ⟨g, t * 2 + 1, none⟩ (.int .i64 (min ch rhi))) from
                ⟨m + 1, by omega, by go_num, ⟨_, ((below_next HBV.out (below_next HB5.out x5.2)).setCell (by exact HI5.out.lt.1) _).setCell (by exact HI5.out.lt.1) _⟩, rfl, by
                  rw [HP2.out ⟨d3, d7⟩]
                  exact HI5.out.put d6 (max cl rlo, min ch rhi)⟩)
              clear hV5 r0 r1 r2 u1 u2 u3 u4 s0' s1' v2 v3 v4
              go_wp2_with fail
              go_roundw
              case rel => exact HX.out
              case measure => simp [intOf]; omega
          · rw [if_neg d7] at CM
            refine wp_region_tail 13 (fun w' => ∃ z : BelW V2, w' = z.w) (by kernel_rfl) (by kernel_rfl) HS0.out ?_
            refine wpK_take (i := 0) (v := ?v0) (by kernel_rfl) rfl (by omega) (by kernel_rfl) (by kernel_rfl) (fun _ _ _ h => h) (Or.inl ⟨by rfl, ?y0⟩) HS0.out ?_
            case y0 => intro w1 hS; (go_simp <;> with_reducible rfl)
            simp only [Act.put, List.setIfInBounds_toArray, List.set_cons_zero, List.set_cons_succ]
            refine wpK_take (i := 1) (v := ?v1) (by kernel_rfl) rfl (by omega) (by kernel_rfl) (by kernel_rfl) (fun _ _ _ h => h) (Or.inl ⟨by rfl, ?y1⟩) HS0.out ?_
            case y1 => intro w1 hS; (go_simp <;> with_reducible rfl)
            simp only [Act.put, List.setIfInBounds_toArray, List.set_cons_zero, List.set_cons_succ]
            refine wpK_take (i := 2) (v := ?v2) (by kernel_rfl) rfl (by omega) (by kernel_rfl) (by kernel_rfl) (fun _ _ _ h => h) (Or.inl ⟨by rfl, ?y2⟩) HS0.out ?_
            case y2 => intro w1 hS; obtain ⟨z, rfl⟩ := hS; (go_simp <;> with_reducible rfl)
            simp only [Act.put, List.setIfInBounds_toArray, List.set_cons_zero, List.set_cons_succ]
            refine wpK_take (i := 3) (v := ?v3) (by kernel_rfl) rfl (by omega) (by kernel_rfl) (by kernel_rfl) (fun _ _ _ h => h) (Or.inl ⟨by rfl, ?y3⟩) HS0.out ?_
            case y3 => intro w1 hS; (go_simp <;> with_reducible rfl)
            simp only [Act.put, List.setIfInBounds_toArray, List.set_cons_zero, List.set_cons_succ]
            refine wpK_take (i := 4) (v := ?v4) (by kernel_rfl) rfl (by omega) (by kernel_rfl) (by kernel_rfl) (fun _ _ _ h => h) (Or.inl ⟨by rfl, ?y4⟩) HS0.out ?_
            case y4 => intro w1 hS; obtain ⟨z, rfl⟩ := hS; (go_simp <;> with_reducible rfl)
            simp only [Act.put, List.setIfInBounds_toArray, List.set_cons_zero, List.set_cons_succ]
            refine wpK_take (i := 5) (v := ?v5) (by kernel_rfl) rfl (by omega) (by kernel_rfl) (by kernel_rfl) (fun _ _ _ h => h) (Or.inl ⟨by rfl, ?y5⟩) HS0.out ?_
            case y5 => intro w1 hS; (go_simp <;> with_reducible rfl)
            simp only [Act.put, List.setIfInBounds_toArray, List.set_cons_zero, List.set_cons_succ]
            refine wpK_take (i := 6) (v := ?v6) (by kernel_rfl) rfl (by omega) (by kernel_rfl) (by kernel_rfl) (fun _ _ _ h => h) (Or.inl ⟨by rfl, ?y6⟩) HS0.out ?_
            case y6 => intro w1 hS; obtain ⟨z, rfl⟩ := hS; (go_simp <;> with_reducible rfl)
            simp only [Act.put, List.setIfInBounds_toArray, List.set_cons_zero, List.set_cons_succ]
            refine wpK_two 7 11 rfl rfl (by omega) (by omega) (by kernel_rfl) ?p7 ?p11
            case p7 =>
              go_wp2_with fail
              refine (bel_of (x := (⟨_, x2.2.drew⟩ : BelW V2)) (CM.out _)).mono ?_
              rintro e w' ⟨rfl, ya, rfl⟩
              go_wp2_with fail
              refine ⟨⟨ya, rfl⟩, ?_⟩
              refine wpK_take (i := 8) (v := .tuple #[.agg #[.int .i64 (0), .int .i64 (0)], .bool false]) (by kernel_rfl) rfl (by omega) (by kernel_rfl) (by kernel_rfl) (fun _ _ _ h => h) (Or.inl ⟨by rfl, ?z8⟩) ⟨ya, rfl⟩ ?_
              case z8 => intro w1 hS; (first | rfl | (go_simp <;> with_reducible rfl) | go_simp)
              simp only [Act.put, List.setIfInBounds_toArray, List.set_cons_zero, List.set_cons_succ]
              refine wpK_take (i := 9) (v := .agg #[.int .i64 (0), .int .i64 (0)]) (by kernel_rfl) rfl (by omega) (by kernel_rfl) (by kernel_rfl) (fun _ _ _ h => h) (Or.inl ⟨by rfl, ?z9⟩) ⟨ya, rfl⟩ ?_
              case z9 => intro w1 hS; (first | rfl | (go_simp <;> with_reducible rfl) | go_simp)
              simp only [Act.put, List.setIfInBounds_toArray, List.set_cons_zero, List.set_cons_succ]
              refine wpK_take (i := 10) (v := .bool false) (by kernel_rfl) rfl (by omega) (by kernel_rfl) (by kernel_rfl) (fun _ _ _ h => h) (Or.inl ⟨by rfl, ?z10⟩) ⟨ya, rfl⟩ ?_
              case z10 => intro w1 hS; (first | rfl | (go_simp <;> with_reducible rfl) | go_simp)
              simp only [Act.put, List.setIfInBounds_toArray, List.set_cons_zero, List.set_cons_succ]
              refine wpK_one 11 rfl (by omega) (by kernel_rfl) ?_
              go_wp2_with fail
              refine ⟨⟨⟨_, bel_alloc ya.2 _⟩, rfl⟩, ?_⟩
              have HT := Lib.hid (TwoBox.new ya.w (0, 0) 40)
              have HBT := Lib.hid (show Below V2.heap.size V2 (ya.w.alloc (.cells #[.int .i64 0, .int .i64 0] 40)) from bel_alloc ya.2 _)
              have HGB := Lib.hid (show V2.heap.size ≤ ya.w.heap.size from ya.2.size)
              obtain ⟨bx, hbx⟩ : ∃ b, ya.w.heap.size = b := ⟨_, rfl⟩
              obtain ⟨W, hW⟩ : ∃ W, ya.w.alloc (.cells #[.int .i64 0, .int .i64 0] 40) = W := ⟨_, rfl⟩
              rw [hbx] at HT HGB ⊢
              rw [hW] at HT HBT ⊢
              clear hbx hW
              have r0 : W.cell? ⟨bx, 0, none⟩ = some (.int .i64 0) := HT.out.lo
              have r1 : W.cell? ⟨bx, 1, none⟩ = some (.int .i64 0) := HT.out.hi
              have r2 := HT.out.fz
              refine wpK_one 12 rfl (by omega) (by kernel_rfl) ?_
              go_wp2_with fail
              refine ⟨⟨⟨_, (HBT.out.setCell (by exact HGB.out) _).setCell (by exact HGB.out) _⟩, rfl⟩, wpK_done (by kernel_rfl) ?_⟩
              simp only [List.drop_succ_cons, List.drop_zero]
              have HX := Lib.hid (HNx.out (fun h => by have h2 : max cl rlo ≤ min ch rhi := h.2; omega))
              go_wp2_with fail
              go_roundw
              case rel => exact HX.out _ ((HBT.out.setCell (by exact HGB.out) _).setCell (by exact HGB.out) _)
              case measure => simp [intOf]; omega
            case p11 =>
              go_wp2_with fail
              refine ⟨⟨⟨_, bel_alloc x2.2.drew _⟩, rfl⟩, ?_⟩
              refine wpK_one 7 rfl (by omega) (by kernel_rfl) ?_
              have HT0 := Lib.hid (TwoBox.new x2.w.drew (0, 0) 40)
              have HBT0 := Lib.hid (show Below V2.heap.size V2 (x2.w.drew.alloc (.cells #[.int .i64 0, .int .i64 0] 40)) from bel_alloc x2.2.drew _)
              have HGB := Lib.hid (show V2.heap.size ≤ x2.w.drew.heap.size from x2.2.size)
              go_wp2_with fail
              refine (CM.out _).mono ?_
              rintro e W ⟨rfl, hb⟩
              have HT := Lib.hid (show TwoBox W x2.w.drew.heap.size (0, 0) from HT0.out.bel ⟨W, hb⟩)
              have HBT := Lib.hid (below_next HBT0.out hb)
              clear hb HT0 HBT0
              go_wp2_with fail
              refine ⟨⟨⟨W, HBT.out⟩, rfl⟩, ?_⟩
              have hbx0 : x2.w.drew.heap.size = x2.w.heap.size := rfl
              rw [hbx0] at HT HGB
              obtain ⟨bx, hbx⟩ : ∃ b, x2.w.heap.size = b := ⟨_, rfl⟩
              rw [hbx] at HT HGB ⊢
              clear hbx hbx0
              refine wpK_take (i := 8) (v := .tuple #[.agg #[.int .i64 (0), .int .i64 (0)], .bool false]) (by kernel_rfl) rfl (by omega) (by kernel_rfl) (by kernel_rfl) (fun _ _ _ h => h) (Or.inl ⟨by rfl, ?z8⟩) ⟨⟨W, HBT.out⟩, rfl⟩ ?_
              case z8 => intro w1 hS; (first | rfl | (go_simp <;> with_reducible rfl) | go_simp)
              simp only [Act.put, List.setIfInBounds_toArray, List.set_cons_zero, List.set_cons_succ]
              refine wpK_take (i := 9) (v := .agg #[.int .i64 (0), .int .i64 (0)]) (by kernel_rfl) rfl (by omega) (by kernel_rfl) (by kernel_rfl) (fun _ _ _ h => h) (Or.inl ⟨by rfl, ?z9⟩) ⟨⟨W, HBT.out⟩, rfl⟩ ?_
              case z9 => intro w1 hS; (first | rfl | (go_simp <;> with_reducible rfl) | go_simp)
              simp only [Act.put, List.setIfInBounds_toArray, List.set_cons_zero, List.set_cons_succ]
              refine wpK_take (i := 10) (v := .bool false) (by kernel_rfl) rfl (by omega) (by kernel_rfl) (by kernel_rfl) (fun _ _ _ h => h) (Or.inl ⟨by rfl, ?z10⟩) ⟨⟨W, HBT.out⟩, rfl⟩ ?_
              case z10 => intro w1 hS; (first | rfl | (go_simp <;> with_reducible rfl) | go_simp)
              simp only [Act.put, List.setIfInBounds_toArray, List.set_cons_zero, List.set_cons_succ]
              have r0 : W.cell? ⟨bx, 0, none⟩ = some (.int .i64 0) := HT.out.lo
              have r1 : W.cell? ⟨bx, 1, none⟩ = some (.int .i64 0) := HT.out.hi
              have r2 := HT.out.fz
              refine wpK_one 12 rfl (by omega) (by kernel_rfl) ?_
              go_wp2_with fail
              refine ⟨⟨⟨_, (HBT.out.setCell (by exact HGB.out) _).setCell (by exact HGB.out) _⟩, rfl⟩, wpK_done (by kernel_rfl) ?_⟩
              simp only [List.drop_succ_cons, List.drop_zero]
              have HX := Lib.hid (HNx.out (fun h => by have h2 : max cl rlo ≤ min ch rhi := h.2; omega))
              go_wp2_with fail
              go_roundw
              case rel => exact HX.out _ ((HBT.out.setCell (by exact HGB.out) _).setCell (by exact HGB.out) _)
              case measure => simp [intOf]; omega
        · have i5 : decide ((m : Int) < (rs.length : Int)) = false := decide_eq_false (by omega)
          obtain rfl : m = rs.length := by omega
          rw [List.take_length] at hI
          have HX := Lib.hid (SpPost.of (cellsL_length G radar p rs k) hI HB0.out.size (below_next HB0.out y.2))
          clear hI
          go_wp2_with fail
          go_ret
          exact HX.out

end Go.Proofs.Ytafnmaojpheppaa
