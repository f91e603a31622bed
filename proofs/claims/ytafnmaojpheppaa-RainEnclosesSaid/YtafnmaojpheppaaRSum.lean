/- rain.Sum and its reference. -/
import Derived.Test.YtafnmaojpheppaaMesh2
import Derived.Test.YtafnmaojpheppaaRefSp26
namespace Go.Proofs.Ytafnmaojpheppaa
open Go.RowKit
set_option linter.unusedVariables false
set_option linter.unusedSimpArgs false

/-- a box of a span that may be written -/
structure TwoBox (W : World) (b : Nat) (p : Sp) : Prop where
  lt : b < W.heap.size
  lo : W.cell? ⟨b, 0, none⟩ = some (.int .i64 p.1)
  hi : W.cell? ⟨b, 1, none⟩ = some (.int .i64 p.2)
  fz : ∀ o, W.frozen? ⟨b, o, none⟩ = false
theorem TwoBox.bel {V : World} {b : Nat} {p : Sp} (h : TwoBox V b p) (y : BelW V) : TwoBox y.w b p := ⟨Nat.lt_of_lt_of_le h.lt y.2.size, BelW.cells h.lo y, BelW.cells h.hi y, fun o => bfrozen y h.lt (h.fz o)⟩
theorem TwoBox.set {W : World} {b : Nat} {p : Sp} (h : TwoBox W b p) (q : Sp) : TwoBox ((W.setCell ⟨b, 0, none⟩ (.int .i64 q.1)).setCell ⟨b, 1, none⟩ (.int .i64 q.2)) b q := by
  refine ⟨by simp only [World.size_setCell]; exact h.lt, ?_, ?_, fun o => by simp only [World.frozen?_setCell]; exact h.fz o⟩
  · rw [World.cell?_setCell_other _ _ _ _ (by intro e; injection e with _ e _; exact absurd e (by decide))]
    exact World.cell?_setCell_same' _ _ _ (by rw [h.lo]; rfl)
  · refine World.cell?_setCell_same' _ _ _ ?_
    rw [World.cell?_setCell_other _ _ _ _ (by intro e; injection e with _ e _; exact absurd e (by decide)), h.hi]
    rfl
theorem TwoBox.other {W : World} {b : Nat} {p : Sp} (h : TwoBox W b p) {a : Addr} (ha : a.block ≠ b) (v : Value) : TwoBox (W.setCell a v) b p :=
  ⟨by rw [World.size_setCell]; exact h.lt, by rw [World.cell?_setCell_other _ _ _ _ (fun e => ha (by rw [e]))]; exact h.lo, by rw [World.cell?_setCell_other _ _ _ _ (fun e => ha (by rw [e]))]; exact h.hi, fun o => by rw [World.frozen?_setCell]; exact h.fz o⟩
theorem TwoBox.alloc {W : World} {b : Nat} {p : Sp} (h : TwoBox W b p) (o : Obj) : TwoBox (W.alloc o) b p :=
  ⟨by rw [World.size_alloc]; exact Nat.lt_succ_of_lt h.lt, cell_alloc h.lo o, cell_alloc h.hi o, fun i => (World.frozen?_alloc_past o _ i h.lt).trans (h.fz i)⟩
theorem TwoBox.new (W : World) (p : Sp) (t : TypeId) : TwoBox (W.alloc (.cells #[.int .i64 p.1, .int .i64 p.2] t)) W.heap.size p :=
  ⟨by rw [World.size_alloc]; exact Nat.lt_succ_self _, by rw [World.cell?_alloc_at _ _ _ _ rfl]; rfl, by rw [World.cell?_alloc_at _ _ _ _ rfl]; rfl, fun o => World.frozen?_alloc_at _ _ _ _ rfl⟩
structure SumI (w : World) (p : Sp) (W : World) : Prop where
  res : TwoBox W w.heap.size (0, 0)
  s : TwoBox W (w.heap.size + 1) p
  below : Below w.heap.size w W
theorem SumI.bel {w V : World} {p : Sp} (h : SumI w p V) (y : BelW V) : SumI w p y.w := ⟨h.res.bel y, h.s.bel y, h.below.trans (y.2.mono h.below.size)⟩
theorem SumI.put {w W : World} {p : Sp} (h : SumI w p W) (q : Sp) : SumI w q ((W.setCell ⟨w.heap.size + 1, 0, none⟩ (.int .i64 q.1)).setCell ⟨w.heap.size + 1, 1, none⟩ (.int .i64 q.2)) :=
  ⟨(h.res.other (by simp) _).other (by simp) _, h.s.set q, (h.below.setCell (by simp) _).setCell (by simp) _⟩
def SumR (w : World) (l : List Sp) (s9 : Value) (wr : World) : Prop := ∃ k : Nat, k ≤ l.length ∧ s9 = .int .i64 (k : Int) ∧ SumI w (sumL (l.take k)) wr

set_option maxHeartbeats 16000000 in
set_option maxRecDepth 100000 in
theorem sum_any (A : Option Addr) (c : Nat) (l : List Sp) (hln : l.length ≤ 9223372036854775807) (hf : ∀ x ∈ l, Fit2 x) (w : World) (hr : Rd w A (spCells l)) :
    Calls Try.prog 15 #[.slice A l.length c] w fun e w' => e = .returned (.agg #[.int .i64 (sumL l).1, .int .i64 (sumL l).2]) ∧ Below w.heap.size w w' := by
  have HR := Lib.hid hr
  have HF := Lib.hid hf
  clear hr hf
  obtain ⟨T, hT⟩ : ∃ S, sumL l = S := ⟨_, rfl⟩
  rw [hT]
  have HT := Lib.hid hT
  clear hT
  obtain ⟨t0, t1⟩ := T
  go_enter Try.func15, Try.ntmps15
  go_upto_region 2 with fail
  refine wp_named _ (fun V hV => ?_)
  have HI := Lib.hid (show SumI w (0, 0) V by
    rw [hV]
    have h2 := TwoBox.new (w.alloc (.cells #[.int .i64 0, .int .i64 0] 40)) (0, 0) 40
    rw [World.size_alloc] at h2
    exact ⟨(TwoBox.new w (0, 0) _).alloc _, h2, bel_alloc (bel_alloc (Below.refl _ _) _) _⟩)
  clear hV
  go_wp2_with fail
  go_loopw [9] (fun s9 wr => SumR w l s9 wr) (fun i _ => l.length - (intOf i).toNat)
  case atStart => exact ⟨0, by omega, rfl, HI.out⟩
  case round =>
    obtain ⟨k, hk, rfl, hJ⟩ := hrel
    by_cases hlt : k < l.length
    · have i4 : decide ((k : Int) < (l.length : Int)) = true := decide_eq_true (by omega)
      have j1 : (0 : Int) ≤ (k : Int) := by omega
      have j2 : (k : Int) < (l.length : Int) := by omega
      obtain ⟨ad, b, o, rfl, hbs, hE, e1, e2⟩ := (HR.out.below (Nat.le_refl _) hJ.below).span hlt
      have hst := sumL_take hlt
      have hfs := sumL_fit (l.take k)
      have hfk := HF.out l[k] (List.getElem_mem hlt)
      rw [← gs_at hlt] at hfk
      obtain ⟨S, hS⟩ : ∃ S, sumL (l.take k) = S := ⟨_, rfl⟩
      rw [hS] at hJ hst hfs
      obtain ⟨X, hX⟩ : ∃ X, gs l k = X := ⟨_, rfl⟩
      rw [hX] at e1 e2 hst hfk
      obtain ⟨s0, s1⟩ := S
      obtain ⟨y0, y1⟩ := X
      have HST := Lib.hid (show sumL (l.take (k + 1)) = (Xa.add s0 y0, Xa.add s1 y1) from hst)
      have CS := Lib.hid (fun u : World => sadd_any s0 s1 y0 y1 hfs.1.1 hfs.1.2 hfs.2.1 hfs.2.2 hfk.1.1 hfk.1.2 hfk.2.1 hfk.2.2 u)
      have HJ := Lib.hid hJ
      clear hS hX hst hfs hfk hJ hbs
      go_upto_region 5 with fail
      refine wp_rebase _ (fun V1 hV1 x1 => ?_)
      have HJ1 := Lib.hid (show SumI w (s0, s1) V1 by rw [hV1]; exact ⟨HJ.out.res.alloc _, HJ.out.s.alloc _, bel_alloc HJ.out.below _⟩)
      have c0 := BelW.cells (show V1.cell? ⟨wr.heap.size, 0, none⟩ = some (.int .i64 y0) by rw [hV1, World.cell?_alloc_at _ _ _ _ rfl]; rfl) x1
      have c1 := BelW.cells (show V1.cell? ⟨wr.heap.size, 1, none⟩ = some (.int .i64 y1) by rw [hV1, World.cell?_alloc_at _ _ _ _ rfl]; rfl) x1
      have g0 := fun z : BelW V1 => (HJ1.out.s.bel z).lo
      have g1 := fun z : BelW V1 => (HJ1.out.s.bel z).hi
      have g2 := fun z : BelW V1 => (HJ1.out.s.bel z).fz
      clear hV1 e1 e2 hE HJ HI
      go_wp2_with (first | (go_at_call 23; with_reducible refine (bel_of (CS.out _)).mono ?_; rintro e w' ⟨rfl, z, rfl⟩))
      go_roundw
      case rel => exact ⟨k + 1, by omega, by go_num, by rw [HST.out]; exact (HJ1.out.bel z).put _⟩
      case measure => simp [intOf]; omega
    · have i4 : decide ((k : Int) < (l.length : Int)) = false := decide_eq_false (by omega)
      obtain rfl : k = l.length := by omega
      rw [List.take_length, HT.out] at hJ
      have g0 := hJ.s.lo
      have g1 := hJ.s.hi
      have r0 := hJ.res.lo
      have r1 := hJ.res.hi
      have r2 := hJ.res.fz
      have HB := Lib.hid hJ.below
      clear hJ
      go_wp2_with fail
      refine bodyPost_ret (v := .agg #[.int .i64 t0, .int .i64 t1]) ?_ rfl ⟨rfl, (HB.out.setCell (by simp) _).setCell (by simp) _⟩
      simp [results, Try.results15, go_sem, r0, r1]

set_option maxHeartbeats 16000000 in
set_option maxRecDepth 100000 in
theorem refsum_any (A : Option Addr) (c : Nat) (l : List Sp) (hln : l.length ≤ 9223372036854775807) (hf : ∀ x ∈ l, Fit2 x) (w : World) (hr : Rd w A (spCells l)) :
    Calls Try.prog 16 #[.slice A l.length c] w fun e w' => e = .returned (.agg #[.int .i64 (sumL l).1, .int .i64 (sumL l).2]) ∧ Below w.heap.size w w' := by
  have HR := Lib.hid hr
  have HF := Lib.hid hf
  clear hr hf
  obtain ⟨T, hT⟩ : ∃ S, sumL l = S := ⟨_, rfl⟩
  rw [hT]
  have HT := Lib.hid hT
  clear hT
  obtain ⟨t0, t1⟩ := T
  go_enter Try.func16, Try.ntmps16
  go_upto_region 2 with fail
  refine wp_named _ (fun V hV => ?_)
  have HI := Lib.hid (show SumI w (0, 0) V by
    rw [hV]
    have h2 := TwoBox.new (w.alloc (.cells #[.int .i64 0, .int .i64 0] 40)) (0, 0) 40
    rw [World.size_alloc] at h2
    exact ⟨(TwoBox.new w (0, 0) _).alloc _, h2, bel_alloc (bel_alloc (Below.refl _ _) _) _⟩)
  clear hV
  go_wp2_with fail
  go_loopw [4] (fun s4 wr => SumR w l s4 wr) (fun i _ => l.length - (intOf i).toNat)
  case atStart => exact ⟨0, by omega, rfl, HI.out⟩
  case round =>
    obtain ⟨k, hk, rfl, hJ⟩ := hrel
    by_cases hlt : k < l.length
    · have i4 : decide ((k : Int) < (l.length : Int)) = true := decide_eq_true (by omega)
      have j1 : (0 : Int) ≤ (k : Int) := by omega
      have j2 : (k : Int) < (l.length : Int) := by omega
      have hRR := (HR.out.below (Nat.le_refl _) hJ.below)
      have hst := sumL_take hlt
      have hfs := sumL_fit (l.take k)
      have hfk := HF.out l[k] (List.getElem_mem hlt)
      rw [← gs_at hlt] at hfk
      obtain ⟨S, hS⟩ : ∃ S, sumL (l.take k) = S := ⟨_, rfl⟩
      rw [hS] at hJ hst hfs
      obtain ⟨X, hX⟩ : ∃ X, gs l k = X := ⟨_, rfl⟩
      obtain ⟨s0, s1⟩ := S
      go_upto_region 5 with fail
      refine wp_rebase _ (fun V1 hV1 x1 => ?_)
      rw [← hV1] at hJ hRR
      obtain ⟨ad, b, o, rfl, hbs, hE, e1, e2⟩ := hRR.span hlt
      rw [hX] at e1 e2 hst hfk
      obtain ⟨x0, x1'⟩ := X
      have HST := Lib.hid (show sumL (l.take (k + 1)) = (Xa.add s0 x0, Xa.add s1 x1') from hst)
      have CS := Lib.hid (fun u : World => refsadd_any s0 s1 x0 x1' hfs.1.1 hfs.1.2 hfs.2.1 hfs.2.2 hfk.1.1 hfk.1.2 hfk.2.1 hfk.2.2 u)
      have HJ1 := Lib.hid hJ
      have c0 := fun z : BelW V1 => BelW.cells e1 z
      have c1 := fun z : BelW V1 => BelW.cells e2 z
      have g0 := fun z : BelW V1 => (HJ1.out.s.bel z).lo
      have g1 := fun z : BelW V1 => (HJ1.out.s.bel z).hi
      have g2 := fun z : BelW V1 => (HJ1.out.s.bel z).fz
      clear hS hX hst hfs hfk hJ hbs hV1 e1 e2 HI hRR
      refine wp_region_belt 6 (by kernel_rfl) (by kernel_rfl) ?_
      simp only [List.take_succ_cons, List.take_zero, List.drop_succ_cons, List.drop_zero]
      repeat (go_big_quiet_step ((first | (go_at_call 36; with_reducible exact bel_of (CS.out _)))))
      refine wpQuiet_nil ?_
      intro z
      go_wp2_with fail
      go_roundw
      case rel => exact ⟨k + 1, by omega, by go_num, by rw [HST.out]; exact (HJ1.out.bel z).put _⟩
      case measure => simp [intOf]; omega
    · have i4 : decide ((k : Int) < (l.length : Int)) = false := decide_eq_false (by omega)
      obtain rfl : k = l.length := by omega
      rw [List.take_length, HT.out] at hJ
      have g0 := hJ.s.lo
      have g1 := hJ.s.hi
      have r0 := hJ.res.lo
      have r1 := hJ.res.hi
      have r2 := hJ.res.fz
      have HB := Lib.hid hJ.below
      clear hJ
      go_wp2_with fail
      refine bodyPost_ret (v := .agg #[.int .i64 t0, .int .i64 t1]) ?_ rfl ⟨rfl, (HB.out.setCell (by simp) _).setCell (by simp) _⟩
      simp [results, Try.results16, go_sem, r0, r1]

end Go.Proofs.Ytafnmaojpheppaa
