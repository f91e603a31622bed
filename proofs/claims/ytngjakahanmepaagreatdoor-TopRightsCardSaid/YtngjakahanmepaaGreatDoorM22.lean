/- Part 22 of the proof of TopRights: Lists of points in memory. sort.Search over a closure that reads. curve.Right. -/
import Derived.Test.YtngjakahanmepaaGreatDoorM04
import Derived.Test.YtngjakahanmepaaGreatDoorM08
import Derived.Deep.LoopGhost
import Derived.Deep.CutBlock
import Derived.Deep.DeepCutAuto
namespace Go.Proofs.YtngjakahanmepaaGreatDoor
open Go.RowKit
set_option linter.unusedVariables false
set_option linter.unusedSimpArgs false
def ptCells (l : List (Int × Int)) : List Value := l.flatMap fun p => [Value.int .i64 p.1, Value.int .i64 p.2]
theorem ptCells_length (l : List (Int × Int)) : (ptCells l).length = 2 * l.length := by
  induction l with
  | nil => rfl
  | cons p l ih => simp only [ptCells, List.flatMap_cons, List.length_append, List.length_cons, List.length_nil] at *; omega
theorem ptCells_at : ∀ (l : List (Int × Int)) (k : Nat) (h : k < l.length), (ptCells l)[k * 2]? = some (.int .i64 (l[k]).1) ∧ (ptCells l)[k * 2 + 1]? = some (.int .i64 (l[k]).2)
  | p :: l, 0, _ => ⟨rfl, rfl⟩
  | p :: l, k + 1, h => by
    have := ptCells_at l k (by simpa using h)
    rw [show (k + 1) * 2 = k * 2 + 2 by omega]
    exact this
theorem Rd.point {A : Option Addr} {l : List (Int × Int)} {w : World} (h : Rd w A (ptCells l)) {k : Nat} (hk : k < l.length) :
    ∃ ad, A = some ad ∧ ad.block < w.heap.size ∧ w.cell? (ad.add (k * 2)) = some (.int .i64 (l[k]).1) ∧ w.cell? ⟨(ad.add (k * 2)).block, (ad.add (k * 2)).off + 1, none⟩ = some (.int .i64 (l[k]).2) := by
  obtain ⟨ad, e, hb, hc⟩ := h (by rw [ptCells_length]; omega)
  obtain ⟨h1, h2⟩ := ptCells_at l k hk
  refine ⟨ad, e, hb, hc _ _ h1, ?_⟩
  have := hc _ _ h2
  have e2 : (⟨(ad.add (k * 2)).block, (ad.add (k * 2)).off + 1, none⟩ : Addr) = ad.add (k * 2 + 1) := by
    unfold Addr.add
    by_cases hz : k * 2 = 0
    · simp [hz]
    · simp [hz, Nat.add_assoc]
  rw [e2]
  exact this
theorem vcl_any (A : Option Addr) (c : Nat) (l : List (Int × Int)) (x : Int) (Bc Bx k : Nat) (w : World) (hc : w.cell? ⟨Bc, 0, none⟩ = some (.slice A l.length c)) (hx : w.cell? ⟨Bx, 0, none⟩ = some (.int .i64 x)) (hr : Rd w A (ptCells l)) (hk : k < l.length) :
    Calls Tryz.prog 136 #[.int .i64 (k : Int), .pointer (some ⟨Bc, 0, none⟩), .pointer (some ⟨Bx, 0, none⟩)] w fun e w' => e = .returned (.bool (decide (x < (l[k]).1))) ∧ ∃ n, w' = w.drewN n := by
  obtain ⟨ad, rfl, hb, h1, h2⟩ := hr.point hk
  have i1 : (0 : Int) ≤ (k : Int) := by omega
  have i2 : (k : Int) < (l.length : Int) := by omega
  generalize (l[k]).1 = u at *
  generalize (l[k]).2 = v at *
  clear hr
  go_enter Tryz.func136, Tryz.ntmps136
  go_wp2_with fail
  go_quiet (fail)
  go_wp2_with fail
  go_ret
  exact ⟨rfl, _, rfl⟩
end Go.Proofs.YtngjakahanmepaaGreatDoor
namespace Go.Proofs.YtngjakahanmepaaGreatDoor
open Go.RowKit
set_option linter.unusedVariables false
set_option linter.unusedSimpArgs false
def SearchPost (n : Nat) (p : Nat → Bool) (w : World) (e : Ending) (w' : World) : Prop :=
  ∃ r : Nat, r ≤ n ∧ e = .returned (.int .i64 (r : Int)) ∧ (∀ t, t < r → p t = false) ∧ (∀ t, r ≤ t → t < n → p t = true) ∧ Below w.heap.size w w'
def SearchI (n : Nat) (p : Nat → Bool) (lo hi : Nat) : Prop := (∀ t, t < lo → p t = false) ∧ (∀ t, hi ≤ t → t < n → p t = true)
set_option maxHeartbeats 2000000 in
theorem search_any (g : Nat) (eg : ∀ args w, (callFunc g args).run Tryz.prog w = .ok (.enter g args) w) (cb : Array Value) (n : Nat) (hn : n ≤ 4611686018427387903) (p : Nat → Bool) (w : World)
    (hf : ∀ (k : Nat), k < n → ∀ y : BelW w, Calls Tryz.prog g (#[.int .i64 (k : Int)] ++ cb) y.w fun e w' => e = .returned (.bool (p k)) ∧ ∃ m, w' = y.w.drewN m)
    (hm : ∀ a b, a ≤ b → b < n → p a = true → p b = true) :
    Calls Tryz.prog 135 #[.int .i64 (n : Int), .func (.func g) #[] cb] w (SearchPost n p w) := by
  have HF := Lib.hid hf
  have M := Lib.hid hm
  clear hf hm
  go_enter Tryz.func135, Tryz.ntmps135
  go_wp2_with fail
  go_loopg [5, 6] n (fun kx s5 s6 wr => ∃ (lo hi : Nat) (y : BelW w), s5 = .int .i64 (lo : Int) ∧ s6 = .int .i64 (hi : Int) ∧ lo ≤ hi ∧ hi ≤ n ∧ hi - lo ≤ kx ∧ wr = y.w ∧ Hid (SearchI n p lo hi))
  case atStart => exact ⟨0, n, ⟨w, Below.refl _ _⟩, rfl, rfl, Nat.zero_le _, Nat.le_refl _, by omega, rfl, Lib.hid ⟨fun t ht => absurd ht (Nat.not_lt_zero _), fun t h1 h2 => by omega⟩⟩
  case round =>
    obtain ⟨lo, hi, y, rfl, rfl, hlh, hin, hg, rfl, I⟩ := hrel
    by_cases hlt : lo < hi
    · have hc := HF.out ((lo + hi) / 2) (by omega) y
      have em : (((lo + hi) / 2 : Nat) : Int) = ((lo : Int) + (hi : Int)) / 2 := by omega
      cases hp : p ((lo + hi) / 2) <;> rw [hp, em] at hc
      · have HP := Lib.hid hp
        have HC := Lib.hid hc
        clear hp hc em
        go_wp2_with fail
        refine HC.out.mono ?_
        rintro e w' ⟨rfl, nq, rfl⟩
        go_wp2_with fail
        go_roundg (hi - ((lo + hi) / 2 + 1))
        case measure => omega
        case rel =>
          refine ⟨(lo + hi) / 2 + 1, hi, ⟨y.w.drewN nq, below_drewN y.2 nq⟩, by rw [Int.natCast_add, Int.natCast_ediv, Int.natCast_add]; rfl, rfl, by omega, hin, by omega, rfl, Lib.hid ⟨fun t ht => ?_, I.out.2⟩⟩
          cases ht' : p t with
          | false => rfl
          | true =>
            have := M.out t ((lo + hi) / 2) (by omega) (by omega) ht'
            rw [HP.out] at this
            cases this
      · have HP := Lib.hid hp
        have HC := Lib.hid hc
        clear hp hc em
        go_wp2_with fail
        refine HC.out.mono ?_
        rintro e w' ⟨rfl, nq, rfl⟩
        go_wp2_with fail
        go_roundg ((lo + hi) / 2 - lo)
        case measure => omega
        case rel =>
          exact ⟨lo, (lo + hi) / 2, ⟨y.w.drewN nq, below_drewN y.2 nq⟩, rfl, by rw [Int.natCast_ediv, Int.natCast_add]; rfl, by omega, by omega, by omega, rfl, Lib.hid ⟨I.out.1, fun t h1 h2 => M.out _ t h1 h2 HP.out⟩⟩
    · obtain rfl : lo = hi := by omega
      have hB : Below w.heap.size w y.w := y.2
      go_wp2_with fail
      go_ret
      exact ⟨lo, hin, rfl, I.out.1, I.out.2, hB⟩
end Go.Proofs.YtngjakahanmepaaGreatDoor
namespace Go.Proofs.YtngjakahanmepaaGreatDoor
open Go.RowKit
set_option linter.unusedVariables false
set_option linter.unusedSimpArgs false
/-- the ends of a point of a list -/
def px (l : List (Int × Int)) (k : Nat) : Int := (l.getD k (0, 0)).1
def py (l : List (Int × Int)) (k : Nat) : Int := (l.getD k (0, 0)).2
theorem px_at {l : List (Int × Int)} {k : Nat} (h : k < l.length) : (l[k]).1 = px l k := by simp [px, h]
theorem py_at {l : List (Int × Int)} {k : Nat} (h : k < l.length) : (l[k]).2 = py l k := by simp [py, h]
theorem Rd.pt {A : Option Addr} {l : List (Int × Int)} {w : World} (h : Rd w A (ptCells l)) {k : Nat} (hk : k < l.length) :
    ∃ ad, A = some ad ∧ ad.block < w.heap.size ∧ w.cell? (ad.add (k * 2)) = some (.int .i64 (px l k)) ∧ w.cell? ⟨(ad.add (k * 2)).block, (ad.add (k * 2)).off + 1, none⟩ = some (.int .i64 (py l k)) := by
  obtain ⟨ad, e, hb, h1, h2⟩ := h.point hk
  exact ⟨ad, e, hb, by rw [h1, px_at hk], by rw [h2, py_at hk]⟩
/-- what is asked of a point -/
def PtOk (l : List (Int × Int)) (k : Nat) : Prop :=
  0 ≤ px l k ∧ px l k ≤ 1125899906842624 ∧ 0 ≤ py l k ∧ py l k ≤ 1125899906842624 ∧ (0 < k → px l (k - 1) < px l k ∧ py l (k - 1) ≤ py l k)
structure RightP (l : List (Int × Int)) : Prop where
  pos : 1 ≤ l.length
  le : l.length ≤ 32
  ok : ∀ k, k < l.length → PtOk l k
def RightPost (l : List (Int × Int)) (w : World) (e : Ending) (w' : World) : Prop := ∃ b : Bool, e = .returned (.bool b) ∧ (b = true ↔ RightP l) ∧ Below w.heap.size w w'
def RightR (l : List (Int × Int)) (w : World) (s15 : Value) (wr : World) : Prop := ∃ k : Nat, k ≤ l.length ∧ s15 = .int .i64 (k : Int) ∧ (∀ j, j < k → PtOk l j) ∧ Below w.heap.size w wr
theorem rightPost_no {l : List (Int × Int)} {w w' : World} (h : ¬ RightP l) (hb : Below w.heap.size w w') : RightPost l w (.returned (.bool false)) w' := ⟨false, rfl, ⟨fun h => absurd h Bool.false_ne_true, fun h' => absurd h' h⟩, hb⟩
set_option maxHeartbeats 8000000 in
set_option maxRecDepth 100000 in
theorem cright_any (A : Option Addr) (c : Nat) (l : List (Int × Int)) (hn : l.length ≤ 9223372036854775807) (w : World) (hr : Rd w A (ptCells l)) :
    Calls Tryz.prog 78 #[.slice A l.length c] w (RightPost l w) := by
  have HRow := Lib.hid hr
  clear hr
  by_cases h1 : l.length < 1
  · have t1 : decide (l.length < 1) = true := decide_eq_true h1
    have hno : ¬ RightP l := fun h => by have := h.pos; omega
    have t1' : decide ((l.length : Int) < 1) = true := decide_eq_true (by omega)
    go_enter Tryz.func78, Tryz.ntmps78
    go_wp2_with fail
    go_ret
    exact rightPost_no hno (Below.refl _ _)
  have t1' : decide ((l.length : Int) < 1) = false := decide_eq_false (by omega)
  by_cases h2 : 32 < l.length
  · have t2' : decide ((32 : Int) < (l.length : Int)) = true := decide_eq_true (by omega)
    have hno : ¬ RightP l := fun h => by have := h.le; omega
    go_enter Tryz.func78, Tryz.ntmps78
    go_wp2_with fail
    go_ret
    exact rightPost_no hno (Below.refl _ _)
  have t2' : decide ((32 : Int) < (l.length : Int)) = false := decide_eq_false (by omega)
  go_enter Tryz.func78, Tryz.ntmps78
  go_wp2_with fail
  go_loopw [15] (fun s15 wr => RightR l w s15 wr) (fun i _ => l.length - (intOf i).toNat)
  case atStart => exact ⟨0, by omega, rfl, fun j hj => absurd hj (Nat.not_lt_zero _), Below.refl _ _⟩
  case round =>
    obtain ⟨k, hk, rfl, hok, hB⟩ := hrel
    have HOK := Lib.hid hok
    clear hok
    by_cases hlt : k < l.length
    · have i1 : (0 : Int) ≤ (k : Int) := by omega
      have i2 : (k : Int) < (l.length : Int) := by omega
      have hrow := HRow.out.below (Nat.le_refl _) hB
      obtain ⟨ad, rfl, hadb, q1, q2⟩ := hrow.pt hlt
      obtain ⟨x, hx⟩ : ∃ x, px l k = x := ⟨_, rfl⟩
      obtain ⟨y, hy⟩ : ∃ y, py l k = y := ⟨_, rfl⟩
      rw [hx] at q1
      rw [hy] at q2
      have HX := Lib.hid hx
      have HY := Lib.hid hy
      have HRW := Lib.hid hrow
      clear hx hy hrow
      have bad : ¬ PtOk l k → ¬ RightP l := fun h h' => h (h'.ok k hlt)
      have HBAD := Lib.hid bad
      clear bad
      rcases b1 : decide (x < 0) with _ | _
      · rcases b2 : decide (1125899906842624 < x) with _ | _
        · rcases b3 : decide (y < 0) with _ | _
          · rcases b4 : decide (1125899906842624 < y) with _ | _
            · go_upto_region 8 with fail
              refine wp_rebase _ (fun V hV z0 => ?_)
              have HB := Lib.hid (show Below w.heap.size w V by rw [hV]; exact bel_alloc hB _)
              have HC := Lib.hid (Cs.at hV ((Cs.nil wr).alloc _ _))
              have hV0 : Below wr.heap.size wr V := by rw [hV]; exact bel_alloc (Below.refl _ _) _
              have hu := HC.out.bx
              simp only [Bx, newCells, join] at hu
              clear hV
              by_cases hk0 : 0 < k
              · have t0 : decide ((0 : Int) < (k : Int)) = true := decide_eq_true (by omega)
                obtain ⟨ad', e', _, r1, r2⟩ := HRW.out.pt (k := k - 1) (by omega)
                cases e'
                obtain ⟨x', hx'⟩ : ∃ x', px l (k - 1) = x' := ⟨_, rfl⟩
                obtain ⟨y', hy'⟩ : ∃ y', py l (k - 1) = y' := ⟨_, rfl⟩
                rw [hx'] at r1
                rw [hy'] at r2
                have s1 := fun z : BelW V => BelW.cells ((hV0.cell (p := ad.add ((k - 1) * 2)) (by rw [add_block]; exact hadb)).trans r1) z
                have s2 := fun z : BelW V => BelW.cells ((hV0.cell (p := ⟨(ad.add ((k - 1) * 2)).block, (ad.add ((k - 1) * 2)).off + 1, none⟩) (by show (ad.add ((k - 1) * 2)).block < _; rw [add_block]; exact hadb)).trans r2) z
                have w1 : IntKind.i64.wrap ((k : Int) - 1) = (k : Int) - 1 := IntWalk.i64_in _ (by omega)
                have w2 : ((k : Int) - 1).toNat = k - 1 := by omega
                have w3 : (0 : Int) ≤ (k : Int) - 1 := by omega
                have w4 : (k : Int) - 1 < (l.length : Int) := by omega
                have HX' := Lib.hid hx'
                have HY' := Lib.hid hy'
                clear hx' hy' r1 r2 q1 q2
                rcases b5 : decide (x ≤ x') with _ | _
                · rcases b6 : decide (y < y') with _ | _
                  · refine wp_region_belx (by kernel_rfl) (by kernel_rfl) ?_
                    repeat (go_big_quiet_step (fail))
                    refine wpQuiet_nil ?_
                    intro z1
                    clear w1 w2 w3 w4
                    have hBz : Below w.heap.size w z1.w := below_next HB.out z1.2
                    go_wp2_with fail
                    go_roundw
                    case rel =>
                      refine ⟨k + 1, by omega, by go_num, fun j hj => ?_, hBz⟩
                      by_cases hjk : j < k
                      · exact HOK.out j hjk
                      · obtain rfl : j = k := by omega
                        simp only [decide_eq_false_iff_not] at b1 b2 b3 b4 b5 b6
                        exact ⟨by rw [HX.out]; omega, by rw [HX.out]; omega, by rw [HY.out]; omega, by rw [HY.out]; omega, fun _ => by rw [HX.out, HY.out, HX'.out, HY'.out]; omega⟩
                    case measure => simp [intOf]; omega
                  · have hno := HBAD.out (fun h => by have := (h.2.2.2.2 hk0).2; rw [HY.out, HY'.out] at this; have := of_decide_eq_true b6; omega)
                    refine wp_region_belx (by kernel_rfl) (by kernel_rfl) ?_
                    repeat (go_big_quiet_step (fail))
                    refine wpQuiet_nil ?_
                    intro z1
                    have hBz : Below w.heap.size w z1.w := below_next HB.out z1.2
                    go_wp2_with fail
                    go_ret
                    exact rightPost_no hno hBz
                · have hno := HBAD.out (fun h => by have := (h.2.2.2.2 hk0).1; rw [HX.out, HX'.out] at this; have := of_decide_eq_true b5; omega)
                  refine wp_region_belx (by kernel_rfl) (by kernel_rfl) ?_
                  repeat (go_big_quiet_step (fail))
                  refine wpQuiet_nil ?_
                  intro z1
                  have hBz : Below w.heap.size w z1.w := below_next HB.out z1.2
                  go_wp2_with fail
                  go_ret
                  exact rightPost_no hno hBz
              · have t0 : decide ((0 : Int) < (k : Int)) = false := decide_eq_false (by omega)
                refine wp_region_belx (by kernel_rfl) (by kernel_rfl) ?_
                repeat (go_big_quiet_step (fail))
                refine wpQuiet_nil ?_
                intro z1
                have hBz : Below w.heap.size w z1.w := below_next HB.out z1.2
                go_wp2_with fail
                go_roundw
                case rel =>
                  refine ⟨k + 1, by omega, by go_num, fun j hj => ?_, hBz⟩
                  obtain rfl : j = k := by omega
                  simp only [decide_eq_false_iff_not] at b1 b2 b3 b4
                  exact ⟨by rw [HX.out]; omega, by rw [HX.out]; omega, by rw [HY.out]; omega, by rw [HY.out]; omega, fun h => absurd h hk0⟩
                case measure => simp [intOf]; omega
            · have hno := HBAD.out (fun h => by have := h.2.2.2.1; rw [HY.out] at this; have := of_decide_eq_true b4; omega)
              go_wp2_with fail
              go_ret
              exact rightPost_no hno (bel_alloc hB _)
          · have hno := HBAD.out (fun h => by have := h.2.2.1; rw [HY.out] at this; have := of_decide_eq_true b3; omega)
            go_wp2_with fail
            go_ret
            exact rightPost_no hno (bel_alloc hB _)
        · have hno := HBAD.out (fun h => by have := h.2.1; rw [HX.out] at this; have := of_decide_eq_true b2; omega)
          go_wp2_with fail
          go_ret
          exact rightPost_no hno (bel_alloc hB _)
      · have hno := HBAD.out (fun h => by have := h.1; rw [HX.out] at this; have := of_decide_eq_true b1; omega)
        go_wp2_with fail
        go_ret
        exact rightPost_no hno (bel_alloc hB _)
    · have i2 : decide ((k : Int) < (l.length : Int)) = false := decide_eq_false (by omega)
      go_wp2_with fail
      go_ret
      exact ⟨true, rfl, ⟨fun _ => ⟨by omega, by omega, fun j hj => HOK.out j (by omega)⟩, fun _ => rfl⟩, hB⟩
end Go.Proofs.YtngjakahanmepaaGreatDoor
