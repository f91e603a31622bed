/- bourneref01.next, bourneref01.Share. -/
import Derived.Test.YtfmnlnmajephlaaShareW
import Derived.Test.YtfmnlnmajephlaaShrQ
import Derived.Test.YtfmnlnmajephlaaRefS
namespace Go.Proofs.Ytfmnlnmajephlaa
open Go.RowKit
set_option linter.unusedVariables false
set_option linter.unusedSimpArgs false

/-! rows of booleans -/
def bl (n : Nat) (m : Nat → Bool) : List Value := (List.range n).map fun i => Value.bool (m i)
theorem bl_length (n : Nat) (m : Nat → Bool) : (bl n m).length = n := by simp [bl]
theorem bl_at {n i : Nat} {m : Nat → Bool} (h : i < n) : (bl n m)[i]? = some (.bool (m i)) := by simp [bl, h]
def BR (w : World) (B g n : Nat) (m : Nat → Bool) : Prop := w.ownsRow B 4 1 (.slice (some ⟨g, 0, none⟩) n n) n (bl n m)
theorem BR.lt {w : World} {B g n : Nat} {m : Nat → Bool} (h : BR w B g n m) : B ≤ g ∧ g < w.heap.size := World.ownsRow.lt h g rfl
theorem BR.cell {w : World} {B g n : Nat} {m : Nat → Bool} (h : BR w B g n m) {i : Nat} (hi : i < n) : w.cell? ⟨g, i, none⟩ = some (.bool (m i)) := by
  rw [World.ownsRow.cellAt h i (by omega), bl_at hi]
theorem BR.frozen {w : World} {B g n : Nat} {m : Nat → Bool} (h : BR w B g n m) (i : Nat) : w.frozen? ⟨g, i, none⟩ = false := World.ownsRow.frozenAt h i
theorem BR.kept {w w' : World} {B g n : Nat} {m : Nat → Bool} {r : Option Nat} (h : BR w B g n m) (hg : w.grownBy w' r) (hne : some g ≠ r) : BR w' B g n m := World.ownsRow.kept h hg (.inr hne)
theorem BR.rd {w : World} {B g n : Nat} {m : Nat → Bool} (h : BR w B g n m) : Rd w (some ⟨g, 0, none⟩) (bl n m) := fun _ =>
  ⟨⟨g, 0, none⟩, rfl, h.lt.2, fun j u hu => World.ownsRow.cells h (g := g) rfl j u hu⟩
theorem bl_set {n i : Nat} {m : Nat → Bool} (h : i < n) : (bl n m).set i (.bool true) = bl n (fun j => if j = i then true else m j) := by
  refine List.ext_getElem (by simp [bl]) fun j h1 h2 => ?_
  by_cases e : i = j
  · subst e; simp [bl]
  · simp [bl, e, Ne.symm e]
theorem BR.set {w : World} {B g n : Nat} {m : Nat → Bool} (h : BR w B g n m) {i : Nat} (hi : i < n) : BR (w.setCell ⟨g, i, none⟩ (.bool true)) B g n (fun j => if j = i then true else m j) := by
  have := (World.ownsRow.stored h i (.bool true)).1
  rw [bl_set hi] at this
  exact this
theorem IR.rd' {w : World} {B g n : Nat} {xs : List Int} (h : IR w B g n xs) : Rd w (some ⟨g, 0, none⟩) (ints xs) := fun _ =>
  ⟨⟨g, 0, none⟩, rfl, h.lt.2, fun j u hu => World.ownsRow.cells h (g := g) rfl j u hu⟩

/-! next -/
def NextP (n : Nat) (r : Nat → Int) (m : Nat → Bool) (v : Int) : Prop :=
  (v = -1 ∧ ∀ j, j < n → m j = true) ∨ (∃ i : Nat, v = (i : Int) ∧ i < n ∧ m i = false ∧ ∀ j, j < n → m j = false → r j < r i ∨ (r j = r i ∧ i ≤ j))
theorem NextP.skip {k : Nat} {r : Nat → Int} {m : Nat → Bool} {v : Int} (h : NextP k r m v) (hm : m k = true) : NextP (k + 1) r m v := by
  rcases h with ⟨a, b⟩ | ⟨i, a, b, c, d⟩
  · exact .inl ⟨a, fun j hj => by by_cases e : j = k; · subst e; exact hm
                                  · exact b j (by omega)⟩
  · exact .inr ⟨i, a, by omega, c, fun j hj hm' => by
      by_cases e : j = k
      · subst e; rw [hm] at hm'; cases hm'
      · exact d j (by omega) hm'⟩
theorem NextP.first {k : Nat} {r : Nat → Int} {m : Nat → Bool} {v : Int} (h : NextP k r m v) (hm : m k = false) (hv : v < 0) : NextP (k + 1) r m (k : Int) := by
  rcases h with ⟨a, b⟩ | ⟨i, a, b, c, d⟩
  · exact .inr ⟨k, rfl, by omega, hm, fun j hj hm' => by
      by_cases e : j = k
      · subst e; exact .inr ⟨rfl, Nat.le_refl _⟩
      · rw [b j (by omega)] at hm'; cases hm'⟩
  · omega
theorem NextP.more {k : Nat} {r : Nat → Int} {m : Nat → Bool} {i : Nat} (h : NextP k r m (i : Int)) (hm : m k = false) (hr : r i < r k) : NextP (k + 1) r m (k : Int) := by
  rcases h with ⟨a, b⟩ | ⟨i', a, b, c, d⟩
  · omega
  · obtain rfl : i = i' := by omega
    exact .inr ⟨k, rfl, by omega, hm, fun j hj hm' => by
      by_cases e : j = k
      · subst e; exact .inr ⟨rfl, Nat.le_refl _⟩
      · have := d j (by omega) hm'; omega⟩
theorem NextP.same {k : Nat} {r : Nat → Int} {m : Nat → Bool} {i : Nat} (h : NextP k r m (i : Int)) (hr : ¬ r i < r k) : NextP (k + 1) r m (i : Int) := by
  rcases h with ⟨a, b⟩ | ⟨i', a, b, c, d⟩
  · omega
  · obtain rfl : i = i' := by omega
    exact .inr ⟨i, rfl, by omega, c, fun j hj hm' => by
      by_cases e : j = k
      · subst e; omega
      · exact d j (by omega) hm'⟩
theorem NextP.get {k : Nat} {r : Nat → Int} {m : Nat → Bool} {v : Int} (h : NextP k r m v) (hv : ¬ v < 0) : ∃ i : Nat, v = (i : Int) ∧ i < k := by
  rcases h with ⟨a, b⟩ | ⟨i, a, b, c, d⟩
  · omega
  · exact ⟨i, a, b⟩
def NxR (V : World) (n : Nat) (r : Nat → Int) (m : Nat → Bool) (s5 s6 : Value) (wr : World) : Prop := ∃ (k : Nat) (v : Int), k ≤ n ∧ s6 = .int .i64 (k : Int) ∧ s5 = .int .i64 v ∧ Hid (NextP k r m v) ∧ ∃ y : BelW V, wr = y.w

set_option maxHeartbeats 8000000 in
set_option maxRecDepth 100000 in
theorem next_any (P M n : Nat) (rs : List Int) (m : Nat → Bool) (hl : rs.length = n) (hn : n ≤ 9223372036854775807) (w : World) (hr : Rd w (some ⟨P, 0, none⟩) (ints rs)) (hm : Rd w (some ⟨M, 0, none⟩) (bl n m)) :
    Calls Try.prog 40 #[.slice (some ⟨P, 0, none⟩) n n, .slice (some ⟨M, 0, none⟩) n n] w fun e w' => ∃ v, e = .returned (.int .i64 v) ∧ NextP n (gi rs) m v ∧ Below w.heap.size w w' := by
  have HR := Lib.hid (show ∀ z : BelW w, ∀ i, i < n → z.w.cell? ⟨P, i, none⟩ = some (.int .i64 (gi rs i)) from fun z i hi => by
    obtain ⟨ad, u, e, _, h1, h2⟩ := (hr.bel z).at (k := i) (by rw [ints_length]; omega)
    cases e
    rw [ints_at (by omega)] at h1
    cases h1
    have : (⟨P, 0, none⟩ : Addr).add i = ⟨P, i, none⟩ := by unfold Addr.add; split <;> simp_all
    rwa [this] at h2)
  have HM := Lib.hid (show ∀ z : BelW w, ∀ i, i < n → z.w.cell? ⟨M, i, none⟩ = some (.bool (m i)) from fun z i hi => by
    obtain ⟨ad, u, e, _, h1, h2⟩ := (hm.bel z).at (k := i) (by rw [bl_length]; omega)
    cases e
    rw [bl_at (by omega)] at h1
    cases h1
    have : (⟨M, 0, none⟩ : Addr).add i = ⟨M, i, none⟩ := by unfold Addr.add; split <;> simp_all
    rwa [this] at h2)
  clear hr hm
  go_enter Try.func40, Try.ntmps40
  go_wp2_with fail
  go_loopw [5, 6] (fun s5 s6 wr => NxR w n (gi rs) m s5 s6 wr) (fun _ i _ => n - (intOf i).toNat)
  case atStart => exact ⟨0, -1, by omega, rfl, rfl, Lib.hid (.inl ⟨rfl, fun j hj => absurd hj (Nat.not_lt_zero _)⟩), ⟨w, Below.refl _ _⟩, rfl⟩
  case round =>
    obtain ⟨k, v, hk, rfl, rfl, hN, y, rfl⟩ := hrel
    by_cases hlt : k < n
    · have i3 : decide ((k : Int) < (n : Int)) = true := decide_eq_true (by omega)
      have j1 : (0 : Int) ≤ (k : Int) := by omega
      have j2 : (k : Int) < (n : Int) := by omega
      have c1 := fun z : BelW w => HM.out z k hlt
      have c2 := fun z : BelW w => HR.out z k hlt
      have HS := Lib.hid (show m k = true → NextP (k + 1) (gi rs) m v from hN.out.skip)
      have HF := Lib.hid (show m k = false → v < 0 → NextP (k + 1) (gi rs) m (k : Int) from hN.out.first)
      obtain ⟨mk, hmk⟩ : ∃ b, m k = b := ⟨_, rfl⟩
      rw [hmk] at c1 HS HF
      cases mk
      case true =>
        have HX := Lib.hid (HS.out rfl)
        clear HS HF hmk
        go_upto_region 5 with fail
        refine wp_region_belx (by kernel_rfl) (by kernel_rfl) ?_
        repeat (go_big_quiet_step (fail))
        refine wpQuiet_nil ?_
        intro zz
        go_wp2_with fail
        go_roundw
        case rel => exact ⟨k + 1, v, by omega, by go_num, rfl, HX, _, rfl⟩
        case measure => simp [intOf]; omega
      case false =>
        by_cases hv : v < 0
        · have d1 : decide (v < 0) = true := decide_eq_true hv
          have HX := Lib.hid (HF.out rfl hv)
          clear HS HF hmk hv
          go_upto_region 5 with fail
          refine wp_region_belx (by kernel_rfl) (by kernel_rfl) ?_
          repeat (go_big_quiet_step (fail))
          refine wpQuiet_nil ?_
          intro zz
          go_wp2_with fail
          go_roundw
          case rel => exact ⟨k + 1, (k : Int), by omega, by go_num, rfl, HX, _, rfl⟩
          case measure => simp [intOf]; omega
        · obtain ⟨i, rfl, hik⟩ := hN.out.get hv
          have d1 : decide ((i : Int) < 0) = false := decide_eq_false hv
          have c3 := fun z : BelW w => HR.out z i (by omega)
          have j3 : (0 : Int) ≤ (i : Int) := by omega
          have j4 : (i : Int) < (n : Int) := by omega
          have HA := Lib.hid (show gi rs i < gi rs k → NextP (k + 1) (gi rs) m (k : Int) from hN.out.more hmk)
          have HB := Lib.hid (show ¬ gi rs i < gi rs k → NextP (k + 1) (gi rs) m (i : Int) from hN.out.same)
          obtain ⟨ri, hri⟩ : ∃ b, gi rs i = b := ⟨_, rfl⟩
          obtain ⟨rk, hrk⟩ : ∃ b, gi rs k = b := ⟨_, rfl⟩
          rw [hri] at c3 HA HB
          rw [hrk] at c2 HA HB
          clear hri hrk HS HF hmk hv
          by_cases hlt2 : ri < rk
          · have d2 : decide (ri < rk) = true := decide_eq_true hlt2
            have HX := Lib.hid (HA.out hlt2)
            clear HA HB hlt2
            go_upto_region 5 with fail
            refine wp_region_belx (by kernel_rfl) (by kernel_rfl) ?_
            repeat (go_big_quiet_step (fail))
            refine wpQuiet_nil ?_
            intro zz
            go_wp2_with fail
            go_roundw
            case rel => exact ⟨k + 1, (k : Int), by omega, by go_num, rfl, HX, _, rfl⟩
            case measure => simp [intOf]; omega
          · have d2 : decide (ri < rk) = false := decide_eq_false hlt2
            have HX := Lib.hid (HB.out hlt2)
            clear HA HB hlt2
            go_upto_region 5 with fail
            refine wp_region_belx (by kernel_rfl) (by kernel_rfl) ?_
            repeat (go_big_quiet_step (fail))
            refine wpQuiet_nil ?_
            intro zz
            go_wp2_with fail
            go_roundw
            case rel => exact ⟨k + 1, (i : Int), by omega, by go_num, rfl, HX, _, rfl⟩
            case measure => simp [intOf]; omega
    · have i3 : decide ((k : Int) < (n : Int)) = false := decide_eq_false (by omega)
      obtain rfl : k = n := by omega
      have hB : Below w.heap.size w y.w := y.2
      go_wp2_with fail
      go_ret
      exact ⟨v, rfl, hN.out, hB⟩

/-! the choice -/
def Closed (t : Int) (l : List Int) (D : List Nat) : Prop := D.Nodup ∧ (∀ i, i ∈ D → i < l.length) ∧ ∀ i j, i ∈ D → j < l.length → j ∉ D → bef t l i j
theorem share_closed {t : Int} {l : List Int} {D : List Nat} (h : Closed t l D) (he : (D.length : Int) = t - su (qq t l) l.length) : ShareP t l (pts t l D) := by
  obtain ⟨hn, hlt, hc⟩ := h
  refine ⟨pts_length _ _ _, ?_, fun i hi => ?_, fun i j hi hj h1 h2 => ?_⟩
  · rw [sum_su, pts_length, su_congr (fun i hi => pts_at hi), su_add, su_mem hn hlt]
    omega
  · rw [pts_at hi]
    by_cases hm : i ∈ D
    · rw [if_pos hm]; exact .inr rfl
    · rw [if_neg hm]; exact .inl (Int.add_zero _)
  · rw [pts_at hi] at h1
    rw [pts_at hj] at h2
    have m1 : i ∈ D := by
      by_cases hm : i ∈ D
      · exact hm
      · rw [if_neg hm] at h1; omega
    have m2 : j ∉ D := fun hm => by rw [if_pos hm] at h2; omega
    exact hc i j m1 hj m2
theorem closed_step {t : Int} {l : List Int} {D : List Nat} (h : Closed t l D) {i : Nat} (hi : i < l.length) (hm : i ∉ D) (hb : ∀ j, j < l.length → j ∉ D → rr t l j < rr t l i ∨ (rr t l j = rr t l i ∧ i ≤ j)) :
    Closed t l (i :: D) ∧ (pts t l D).set i (gi (pts t l D) i + 1) = pts t l (i :: D) ∧ gi (pts t l D) i = qq t l i := by
  obtain ⟨hn, hlt, hc⟩ := h
  have hv : gi (pts t l D) i = qq t l i := by rw [pts_at hi, if_neg hm, Int.add_zero]
  refine ⟨⟨List.nodup_cons.2 ⟨hm, hn⟩, fun j hj => ?_, fun a b ha hb' hbn => ?_⟩, ?_, hv⟩
  · rcases List.mem_cons.1 hj with rfl | h'
    · exact hi
    · exact hlt j h'
  · have hbD : b ∉ D := fun h' => hbn (List.mem_cons_of_mem _ h')
    have hbi : b ≠ i := fun e => hbn (e ▸ List.mem_cons_self ..)
    rcases List.mem_cons.1 ha with rfl | h'
    · have := hb b hb' hbD
      unfold bef
      omega
    · exact hc a b h' hb' hbD
  · refine gi_ext (by simp [pts_length]) fun j hj => ?_
    rw [List.length_set, pts_length] at hj
    by_cases e : i = j
    · subst e
      rw [gi_set_same (by rw [pts_length]; exact hi), hv, pts_at hi, if_pos (List.mem_cons_self ..)]
    · rw [gi_set_other e, pts_at hj, pts_at hj]
      have : (j ∈ i :: D) ↔ j ∈ D := by rw [List.mem_cons]; exact ⟨fun h => h.resolve_left (Ne.symm e), .inr⟩
      simp only [this]
theorem closed_room {l : List Int} {D : List Nat} (hn : D.Nodup) (hlt : ∀ i, i ∈ D → i < l.length) (h : D.length < l.length) : ∃ j, j < l.length ∧ j ∉ D := by
  have a := su_mem (n := l.length) hn hlt
  by_cases hx : ∃ j, j < l.length ∧ j ∉ D
  · exact hx
  · exfalso
    have b : su (fun i => if i ∈ D then 1 else 0) l.length = su (fun _ => (1 : Int)) l.length := su_congr fun i hi => by
      by_cases e : i ∈ D
      · rw [if_pos e]
      · exact absurd ⟨i, hi, e⟩ hx
    have e1 : ∀ n : Nat, su (fun _ => (1 : Int)) n = (n : Int) := fun n => by
      induction n with
      | zero => rfl
      | succ n ih => show su _ n + 1 = _; rw [ih]; omega
    rw [b, e1] at a
    omega

end Go.Proofs.Ytfmnlnmajephlaa
