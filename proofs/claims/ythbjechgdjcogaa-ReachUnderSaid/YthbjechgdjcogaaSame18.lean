/- Comparisons of rows, queues and rows of rows that are equal. -/
import Derived.Test.YthbjechgdjcogaaPush
namespace Go.Proofs.Ythbjechgdjcogaa
open Go.RowKit
set_option linter.unusedVariables false
set_option linter.unusedSimpArgs false

def CnR (V : World) (n : Nat) (s5 : Value) (wr : World) : Prop := ∃ k : Nat, k ≤ n ∧ s5 = .int .i64 (k : Int) ∧ ∃ y : BelW V, wr = y.w
theorem keys_length (l : List Ld) : (keys l).length = l.length := by simp [keys]
theorem parts_length (l : List Rw) : (parts l).length = l.length := by simp [parts]
theorem keys_at {a b : List Ld} (h : keys a = keys b) {k : Nat} (ha : k < a.length) (hb : k < b.length) : (a[k]).hr = (b[k]).hr ∧ (a[k]).pl = (b[k]).pl ∧ (a[k]).part = (b[k]).part := by
  have e : (keys a)[k]? = (keys b)[k]? := by rw [h]
  simpa [keys, ha, hb, Ld.key] using e
theorem parts_at {a b : List Rw} (h : parts a = parts b) {k : Nat} (ha : k < a.length) (hb : k < b.length) : (a[k]).part = (b[k]).part := by
  have e : (parts a)[k]? = (parts b)[k]? := by rw [h]
  simpa [parts, ha, hb] using e

set_option maxHeartbeats 4000000 in
set_option maxRecDepth 100000 in
theorem refi_any (A B : Option Addr) (ca cb : Nat) (a : List Int) (n : Nat) (hl : a.length = n) (hn : n ≤ 9223372036854775807) (w : World) (hra : Rd w A (ints a)) (hrb : Rd w B (ints a)) :
    Calls Try.prog 29 #[.slice A n ca, .slice B n cb] w fun e w' => e = .returned (.bool true) ∧ Below w.heap.size w w' := by
  subst hl
  have HRA := Lib.hid hra
  have HRB := Lib.hid hrb
  clear hra hrb
  go_enter Try.func29, Try.ntmps29
  go_wp2_with fail
  go_loopw [5] (fun s5 wr => CnR w a.length s5 wr) (fun i _ => a.length - (intOf i).toNat)
  case atStart => exact ⟨0, by omega, rfl, ⟨w, Below.refl _ _⟩, rfl⟩
  case round =>
    obtain ⟨k, hk, rfl, y, rfl⟩ := hrel
    by_cases hlt : k < a.length
    · have i3 : decide ((k : Int) < (a.length : Int)) = true := decide_eq_true (by omega)
      obtain ⟨ad, u, rfl, hadb, e1, e2⟩ := (HRA.out.bel y).at (k := k) (by rw [ints_length]; exact hlt)
      rw [ints_at hlt] at e1
      cases e1
      obtain ⟨bd, u, rfl, hbdb, f1, f2⟩ := (HRB.out.bel y).at (k := k) (by rw [ints_length]; omega)
      rw [ints_at (by omega)] at f1
      cases f1
      obtain ⟨p, hp⟩ : ∃ p, gi a k = p := ⟨_, rfl⟩
      rw [hp] at e2 f2
      have j1 : (0 : Int) ≤ (k : Int) := by omega
      have j2 : (k : Int) < (a.length : Int) := by omega
      have s1 := fun z : BelW y.w => BelW.cells e2 z
      have s2 := fun z : BelW y.w => BelW.cells f2 z
      clear hp e2 f2
      go_upto_region 6 with fail
      refine wp_rebase y.w (fun V hV x0 => ?_)
      rw [← hV] at s1 s2
      have HY := Lib.hid (show Below w.heap.size w V by rw [hV]; exact y.2)
      clear hV
      refine wp_region_belx (by kernel_rfl) (by kernel_rfl) ?_
      repeat (go_big_quiet_step (fail))
      refine wpQuiet_nil ?_
      intro z
      go_wp2_with fail
      go_roundw
      case rel => exact ⟨k + 1, by omega, by go_num, ⟨z.w, below_next HY.out z.2⟩, rfl⟩
      case measure => simp [intOf]; omega
    · have i3 : decide ((k : Int) < (a.length : Int)) = false := decide_eq_false (by omega)
      have hB : Below w.heap.size w y.w := y.2
      go_wp2_with fail
      go_ret
      exact ⟨rfl, hB⟩
set_option maxHeartbeats 8000000 in
set_option maxRecDepth 100000 in
theorem refl_any (A B : Option Addr) (ca cb : Nat) (a b : List Ld) (n m : Nat) (hla : a.length = n) (hlb : b.length = m) (hn : n ≤ 9223372036854775807) (hoa : QOk a) (hk : keys a = keys b) (w : World) (hra : Qu w A a) (hrb : Qu w B b) :
    Calls Try.prog 12 #[.slice A n ca, .slice B m cb] w fun e w' => e = .returned (.bool true) ∧ Below w.heap.size w w' := by
  obtain rfl : n = m := by rw [← hla, ← hlb, ← keys_length a, hk, keys_length]
  subst hla
  have HRA := Lib.hid hra
  have HRB := Lib.hid hrb
  have HK := Lib.hid hk
  have HLB := Lib.hid hlb
  have HO := Lib.hid hoa
  clear hra hrb hk hlb hoa
  go_enter Try.func12, Try.ntmps12
  go_wp2_with fail
  go_loopw [5] (fun s5 wr => CnR w a.length s5 wr) (fun i _ => a.length - (intOf i).toNat)
  case atStart => exact ⟨0, by omega, rfl, ⟨w, Below.refl _ _⟩, rfl⟩
  case round =>
    obtain ⟨k, hk, rfl, y, rfl⟩ := hrel
    by_cases hlt : k < a.length
    · have i3 : decide ((k : Int) < (a.length : Int)) = true := decide_eq_true (by omega)
      have hltb : k < b.length := by rw [HLB.out]; exact hlt
      obtain ⟨ad, rfl, hadb, e1, e2, e3, e4⟩ := (HRA.out.bel y).at hlt
      obtain ⟨bd, rfl, hbdb, f1, f2, f3, f4⟩ := (HRB.out.bel y).at hltb
      obtain ⟨k1, k2, k3⟩ := keys_at HK.out hlt hltb
      have hm := (HO.out _ (List.getElem_mem hlt)).1.len
      rw [← k1] at f1
      rw [← k2] at f2
      rw [← k3] at f3 f4
      obtain ⟨h, hh⟩ : ∃ h, (a[k]).hr = h := ⟨_, rfl⟩
      obtain ⟨q, hq⟩ : ∃ h, (a[k]).pl = h := ⟨_, rfl⟩
      obtain ⟨p, hp⟩ : ∃ h, (a[k]).part = h := ⟨_, rfl⟩
      obtain ⟨PA, hPA⟩ : ∃ h, (a[k]).A = h := ⟨_, rfl⟩
      obtain ⟨PB, hPB⟩ : ∃ h, (b[k]).A = h := ⟨_, rfl⟩
      obtain ⟨ca', hca⟩ : ∃ h, (a[k]).c = h := ⟨_, rfl⟩
      obtain ⟨cb', hcb⟩ : ∃ h, (b[k]).c = h := ⟨_, rfl⟩
      rw [hh] at e1 f1
      rw [hq] at e2 f2
      rw [hp, hPA, hca] at e3
      rw [hp, hPB, hcb] at f3
      rw [hp, hPA] at e4
      rw [hp, hPB] at f4
      rw [hp] at hm
      have j1 : (0 : Int) ≤ (k : Int) := by omega
      have j2 : (k : Int) < (a.length : Int) := by omega
      have s1 := fun z : BelW y.w => BelW.cells e1 z
      have s2 := fun z : BelW y.w => BelW.cells e2 z
      have s3 := fun z : BelW y.w => BelW.cells e3 z
      have s4 := fun z : BelW y.w => BelW.cells f1 z
      have s5 := fun z : BelW y.w => BelW.cells f2 z
      have s6 := fun z : BelW y.w => BelW.cells f3 z
      have C := Lib.hid (fun z : BelW y.w => bel_of (x := z) (refi_any PA PB ca' cb' p p.length rfl (by unfold maxLen at hm; omega) z.w (e4.bel z) (f4.bel z)))
      clear hh hq hp hPA hPB hca hcb e1 e2 e3 e4 f1 f2 f3 f4 k1 k2 k3 hm hltb
      go_upto_region 6 with fail
      refine wp_rebase y.w (fun V hV x0 => ?_)
      rw [← hV] at s1 s2 s3 s4 s5 s6 C
      have HY := Lib.hid (show Below w.heap.size w V by rw [hV]; exact y.2)
      clear hV
      refine wp_region_belx (by kernel_rfl) (by kernel_rfl) ?_
      repeat (go_big_quiet_step ((go_at_call 29; with_reducible exact C.out _)))
      refine wpQuiet_nil ?_
      intro z
      go_wp2_with fail
      go_roundw
      case rel => exact ⟨k + 1, by omega, by go_num, ⟨z.w, below_next HY.out z.2⟩, rfl⟩
      case measure => simp [intOf]; omega
    · have i3 : decide ((k : Int) < (a.length : Int)) = false := decide_eq_false (by omega)
      have hB : Below w.heap.size w y.w := y.2
      go_wp2_with fail
      go_ret
      exact ⟨rfl, hB⟩
set_option maxHeartbeats 8000000 in
set_option maxRecDepth 100000 in
theorem refll_any (A B : Option Addr) (ca cb : Nat) (a b : List Rw) (n m : Nat) (hla : a.length = n) (hlb : b.length = m) (hn : n ≤ 9223372036854775807) (hoa : ∀ x ∈ a, x.part.length ≤ 9223372036854775807) (hk : parts a = parts b) (w : World) (hra : Mx w A a) (hrb : Mx w B b) :
    Calls Try.prog 19 #[.slice A n ca, .slice B m cb] w fun e w' => e = .returned (.bool true) ∧ Below w.heap.size w w' := by
  obtain rfl : n = m := by rw [← hla, ← hlb, ← parts_length a, hk, parts_length]
  subst hla
  have HRA := Lib.hid hra
  have HRB := Lib.hid hrb
  have HK := Lib.hid hk
  have HLB := Lib.hid hlb
  have HO := Lib.hid hoa
  clear hra hrb hk hlb hoa
  go_enter Try.func19, Try.ntmps19
  go_wp2_with fail
  go_loopw [5] (fun s5 wr => CnR w a.length s5 wr) (fun i _ => a.length - (intOf i).toNat)
  case atStart => exact ⟨0, by omega, rfl, ⟨w, Below.refl _ _⟩, rfl⟩
  case round =>
    obtain ⟨k, hk, rfl, y, rfl⟩ := hrel
    by_cases hlt : k < a.length
    · have i3 : decide ((k : Int) < (a.length : Int)) = true := decide_eq_true (by omega)
      have hltb : k < b.length := by rw [HLB.out]; exact hlt
      obtain ⟨ad, rfl, hadb, e3, e4⟩ := (HRA.out.bel y).at hlt
      obtain ⟨bd, rfl, hbdb, f3, f4⟩ := (HRB.out.bel y).at hltb
      have k3 := parts_at HK.out hlt hltb
      have hm := HO.out _ (List.getElem_mem hlt)
      rw [← k3] at f3 f4
      obtain ⟨p, hp⟩ : ∃ h, (a[k]).part = h := ⟨_, rfl⟩
      obtain ⟨PA, hPA⟩ : ∃ h, (a[k]).A = h := ⟨_, rfl⟩
      obtain ⟨PB, hPB⟩ : ∃ h, (b[k]).A = h := ⟨_, rfl⟩
      obtain ⟨ca', hca⟩ : ∃ h, (a[k]).c = h := ⟨_, rfl⟩
      obtain ⟨cb', hcb⟩ : ∃ h, (b[k]).c = h := ⟨_, rfl⟩
      rw [hp, hPA, hca] at e3
      rw [hp, hPB, hcb] at f3
      rw [hp, hPA] at e4
      rw [hp, hPB] at f4
      rw [hp] at hm
      have j1 : (0 : Int) ≤ (k : Int) := by omega
      have j2 : (k : Int) < (a.length : Int) := by omega
      have s3 := fun z : BelW y.w => BelW.cells e3 z
      have s6 := fun z : BelW y.w => BelW.cells f3 z
      have C := Lib.hid (fun z : BelW y.w => bel_of (x := z) (refi_any PA PB ca' cb' p p.length rfl hm z.w (e4.bel z) (f4.bel z)))
      clear hp hPA hPB hca hcb e3 e4 f3 f4 k3 hm hltb
      go_upto_region 6 with fail
      refine wp_rebase y.w (fun V hV x0 => ?_)
      rw [← hV] at s3 s6 C
      have HY := Lib.hid (show Below w.heap.size w V by rw [hV]; exact y.2)
      clear hV
      refine wp_region_belx (by kernel_rfl) (by kernel_rfl) ?_
      repeat (go_big_quiet_step ((go_at_call 29; with_reducible exact C.out _)))
      refine wpQuiet_nil ?_
      intro z
      go_wp2_with fail
      go_roundw
      case rel => exact ⟨k + 1, by omega, by go_num, ⟨z.w, below_next HY.out z.2⟩, rfl⟩
      case measure => simp [intOf]; omega
    · have i3 : decide ((k : Int) < (a.length : Int)) = false := decide_eq_false (by omega)
      have hB : Below w.heap.size w y.w := y.2
      go_wp2_with fail
      go_ret
      exact ⟨rfl, hB⟩
set_option maxHeartbeats 4000000 in
set_option maxRecDepth 100000 in
theorem lawi_any (A B : Option Addr) (ca cb : Nat) (a : List Int) (n : Nat) (hl : a.length = n) (hn : n ≤ 9223372036854775807) (w : World) (hra : Rd w A (ints a)) (hrb : Rd w B (ints a)) :
    Calls Try.prog 24 #[.slice A n ca, .slice B n cb] w fun e w' => e = .returned (.bool true) ∧ Below w.heap.size w w' := by
  subst hl
  have HRA := Lib.hid hra
  have HRB := Lib.hid hrb
  clear hra hrb
  go_enter Try.func24, Try.ntmps24
  go_wp2_with fail
  go_loopw [5] (fun s5 wr => CnR w a.length s5 wr) (fun i _ => a.length - (intOf i).toNat)
  case atStart => exact ⟨0, by omega, rfl, ⟨w, Below.refl _ _⟩, rfl⟩
  case round =>
    obtain ⟨k, hk, rfl, y, rfl⟩ := hrel
    by_cases hlt : k < a.length
    · have i3 : decide ((k : Int) < (a.length : Int)) = true := decide_eq_true (by omega)
      obtain ⟨ad, u, rfl, hadb, e1, e2⟩ := (HRA.out.bel y).at (k := k) (by rw [ints_length]; exact hlt)
      rw [ints_at hlt] at e1
      cases e1
      obtain ⟨bd, u, rfl, hbdb, f1, f2⟩ := (HRB.out.bel y).at (k := k) (by rw [ints_length]; omega)
      rw [ints_at (by omega)] at f1
      cases f1
      obtain ⟨p, hp⟩ : ∃ p, gi a k = p := ⟨_, rfl⟩
      rw [hp] at e2 f2
      have j1 : (0 : Int) ≤ (k : Int) := by omega
      have j2 : (k : Int) < (a.length : Int) := by omega
      have s1 := fun z : BelW y.w => BelW.cells e2 z
      have s2 := fun z : BelW y.w => BelW.cells f2 z
      clear hp e2 f2
      go_upto_region 6 with fail
      refine wp_rebase y.w (fun V hV x0 => ?_)
      rw [← hV] at s1 s2
      have HY := Lib.hid (show Below w.heap.size w V by rw [hV]; exact y.2)
      clear hV
      refine wp_region_belx (by kernel_rfl) (by kernel_rfl) ?_
      repeat (go_big_quiet_step (fail))
      refine wpQuiet_nil ?_
      intro z
      go_wp2_with fail
      go_roundw
      case rel => exact ⟨k + 1, by omega, by go_num, ⟨z.w, below_next HY.out z.2⟩, rfl⟩
      case measure => simp [intOf]; omega
    · have i3 : decide ((k : Int) < (a.length : Int)) = false := decide_eq_false (by omega)
      have hB : Below w.heap.size w y.w := y.2
      go_wp2_with fail
      go_ret
      exact ⟨rfl, hB⟩
set_option maxHeartbeats 8000000 in
set_option maxRecDepth 100000 in
theorem lawl_any (A B : Option Addr) (ca cb : Nat) (a b : List Ld) (n m : Nat) (hla : a.length = n) (hlb : b.length = m) (hn : n ≤ 9223372036854775807) (hoa : QOk a) (hk : keys a = keys b) (w : World) (hra : Qu w A a) (hrb : Qu w B b) :
    Calls Try.prog 22 #[.slice A n ca, .slice B m cb] w fun e w' => e = .returned (.bool true) ∧ Below w.heap.size w w' := by
  obtain rfl : n = m := by rw [← hla, ← hlb, ← keys_length a, hk, keys_length]
  subst hla
  have HRA := Lib.hid hra
  have HRB := Lib.hid hrb
  have HK := Lib.hid hk
  have HLB := Lib.hid hlb
  have HO := Lib.hid hoa
  clear hra hrb hk hlb hoa
  go_enter Try.func22, Try.ntmps22
  go_wp2_with fail
  go_loopw [5] (fun s5 wr => CnR w a.length s5 wr) (fun i _ => a.length - (intOf i).toNat)
  case atStart => exact ⟨0, by omega, rfl, ⟨w, Below.refl _ _⟩, rfl⟩
  case round =>
    obtain ⟨k, hk, rfl, y, rfl⟩ := hrel
    by_cases hlt : k < a.length
    · have i3 : decide ((k : Int) < (a.length : Int)) = true := decide_eq_true (by omega)
      have hltb : k < b.length := by rw [HLB.out]; exact hlt
      obtain ⟨ad, rfl, hadb, e1, e2, e3, e4⟩ := (HRA.out.bel y).at hlt
      obtain ⟨bd, rfl, hbdb, f1, f2, f3, f4⟩ := (HRB.out.bel y).at hltb
      obtain ⟨k1, k2, k3⟩ := keys_at HK.out hlt hltb
      have hm := (HO.out _ (List.getElem_mem hlt)).1.len
      rw [← k1] at f1
      rw [← k2] at f2
      rw [← k3] at f3 f4
      obtain ⟨h, hh⟩ : ∃ h, (a[k]).hr = h := ⟨_, rfl⟩
      obtain ⟨q, hq⟩ : ∃ h, (a[k]).pl = h := ⟨_, rfl⟩
      obtain ⟨p, hp⟩ : ∃ h, (a[k]).part = h := ⟨_, rfl⟩
      obtain ⟨PA, hPA⟩ : ∃ h, (a[k]).A = h := ⟨_, rfl⟩
      obtain ⟨PB, hPB⟩ : ∃ h, (b[k]).A = h := ⟨_, rfl⟩
      obtain ⟨ca', hca⟩ : ∃ h, (a[k]).c = h := ⟨_, rfl⟩
      obtain ⟨cb', hcb⟩ : ∃ h, (b[k]).c = h := ⟨_, rfl⟩
      rw [hh] at e1 f1
      rw [hq] at e2 f2
      rw [hp, hPA, hca] at e3
      rw [hp, hPB, hcb] at f3
      rw [hp, hPA] at e4
      rw [hp, hPB] at f4
      rw [hp] at hm
      have j1 : (0 : Int) ≤ (k : Int) := by omega
      have j2 : (k : Int) < (a.length : Int) := by omega
      have s1 := fun z : BelW y.w => BelW.cells e1 z
      have s2 := fun z : BelW y.w => BelW.cells e2 z
      have s3 := fun z : BelW y.w => BelW.cells e3 z
      have s4 := fun z : BelW y.w => BelW.cells f1 z
      have s5 := fun z : BelW y.w => BelW.cells f2 z
      have s6 := fun z : BelW y.w => BelW.cells f3 z
      have C := Lib.hid (fun z : BelW y.w => bel_of (x := z) (lawi_any PA PB ca' cb' p p.length rfl (by unfold maxLen at hm; omega) z.w (e4.bel z) (f4.bel z)))
      clear hh hq hp hPA hPB hca hcb e1 e2 e3 e4 f1 f2 f3 f4 k1 k2 k3 hm hltb
      go_upto_region 6 with fail
      refine wp_rebase y.w (fun V hV x0 => ?_)
      rw [← hV] at s1 s2 s3 s4 s5 s6 C
      have HY := Lib.hid (show Below w.heap.size w V by rw [hV]; exact y.2)
      clear hV
      refine wp_region_belx (by kernel_rfl) (by kernel_rfl) ?_
      repeat (go_big_quiet_step ((go_at_call 24; with_reducible exact C.out _)))
      refine wpQuiet_nil ?_
      intro z
      go_wp2_with fail
      go_roundw
      case rel => exact ⟨k + 1, by omega, by go_num, ⟨z.w, below_next HY.out z.2⟩, rfl⟩
      case measure => simp [intOf]; omega
    · have i3 : decide ((k : Int) < (a.length : Int)) = false := decide_eq_false (by omega)
      have hB : Below w.heap.size w y.w := y.2
      go_wp2_with fail
      go_ret
      exact ⟨rfl, hB⟩

end Go.Proofs.Ythbjechgdjcogaa
