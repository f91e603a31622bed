/- bournelaw18.few. -/
import Derived.Test.YthbjechgdjcogaaRou18
namespace Go.Proofs.Ythbjechgdjcogaa
open Go.RowKit
set_option linter.unusedVariables false
set_option linter.unusedSimpArgs false

def FewP (l : List Ld) : Prop := (∀ x ∈ l, x.part.length ≤ 6) ∧ l.length ≤ 20
def FewPost (l : List Ld) (w : World) (e : Ending) (w' : World) : Prop := ∃ b : Bool, e = .returned (.bool b) ∧ (b = true ↔ FewP l) ∧ Below w.heap.size w w'
def FewR (V : World) (l : List Ld) (s3 : Value) (wr : World) : Prop := ∃ k : Nat, k ≤ l.length ∧ s3 = .int .i64 (k : Int) ∧ Hid (∀ x ∈ l.take k, x.part.length ≤ 6) ∧ ∃ y : BelW V, wr = y.w
set_option maxHeartbeats 4000000 in
set_option maxRecDepth 100000 in
theorem few_any (A : Option Addr) (c : Nat) (l : List Ld) (hn : l.length ≤ 9223372036854775807) (hok : QOk l) (w : World) (hq : Qu w A l) :
    Calls Try.prog 9 #[.slice A l.length c] w (FewPost l w) := by
  have HQ := Lib.hid hq
  have HO := Lib.hid hok
  clear hq hok
  go_enter Try.func9, Try.ntmps9
  go_wp2_with fail
  go_loopw [3] (fun s3 wr => FewR w l s3 wr) (fun i _ => l.length - (intOf i).toNat)
  case atStart => exact ⟨0, by omega, rfl, Lib.hid (fun x hx => by cases hx), ⟨w, Below.refl _ _⟩, rfl⟩
  case round =>
    obtain ⟨k, hk, rfl, hall, y, rfl⟩ := hrel
    by_cases hlt : k < l.length
    · have i3 : decide ((k : Int) < (l.length : Int)) = true := decide_eq_true (by omega)
      have j1 : (0 : Int) ≤ (k : Int) := by omega
      have j2 : (k : Int) < (l.length : Int) := by omega
      obtain ⟨ad, rfl, _, e1, e2, e3, e4⟩ := (HQ.out.bel y).at hlt
      have HIN := Lib.hid (List.getElem_mem hlt)
      have HTK := Lib.hid (show l.take (k + 1) = l.take k ++ [l[k]] from List.take_succ_eq_append_getElem hlt)
      have hml := (HO.out _ (List.getElem_mem hlt)).1.len
      have HL := Lib.hid (show (l[k]).part.length ≤ 9223372036854775807 by unfold maxLen at hml; omega)
      have HX := Lib.hid (show (l[k]).part.length ≤ 6 → ∀ x ∈ l.take (k + 1), x.part.length ≤ 6 from fun h x hx => by
        rw [HTK.out] at hx
        rcases List.mem_append.1 hx with h1 | h1
        · exact hall.out x h1
        · rw [List.mem_singleton.1 h1]; exact h)
      have HN := Lib.hid (show ¬ (l[k]).part.length ≤ 6 → ¬ FewP l from fun h hf => h (hf.1 _ HIN.out))
      obtain ⟨m, hm⟩ : ∃ m, (l[k]).part.length = m := ⟨_, rfl⟩
      obtain ⟨PA, hPA⟩ : ∃ x, (l[k]).A = x := ⟨_, rfl⟩
      obtain ⟨pc, hpc⟩ : ∃ x, (l[k]).c = x := ⟨_, rfl⟩
      rw [hm, hPA, hpc] at e3
      rw [hm] at HX HN HL
      have hm63 := HL.out
      have hB : Below w.heap.size w y.w := y.2
      clear hm hPA hpc e1 e2 e4 hml HTK HIN
      by_cases q : m ≤ 6
      · have q' : decide ((6 : Int) < (m : Int)) = false := decide_eq_false (by omega)
        have HY := Lib.hid (HX.out q)
        clear HX HN
        go_wp2_with fail
        go_roundw
        case rel => exact ⟨k + 1, by omega, by go_num, HY, y, rfl⟩
        case measure => simp [intOf]; omega
      · have q' : decide ((6 : Int) < (m : Int)) = true := decide_eq_true (by omega)
        have HY := Lib.hid (HN.out q)
        clear HX HN
        go_wp2_with fail
        go_ret
        exact ⟨false, rfl, ⟨fun h => absurd h Bool.false_ne_true, fun h => absurd h HY.out⟩, hB⟩
    · have i3 : decide ((k : Int) < (l.length : Int)) = false := decide_eq_false (by omega)
      obtain rfl : k = l.length := by omega
      have hB : Below w.heap.size w y.w := y.2
      have hall' := hall.out
      rw [List.take_length] at hall'
      have HA := Lib.hid hall'
      clear hall hall'
      by_cases q : l.length ≤ 20
      · have q' : decide ((l.length : Int) ≤ 20) = true := decide_eq_true (by omega)
        go_wp2_with fail
        go_ret
        exact ⟨true, rfl, ⟨fun _ => ⟨HA.out, q⟩, fun _ => rfl⟩, hB⟩
      · have q' : decide ((l.length : Int) ≤ 20) = false := decide_eq_false (by omega)
        go_wp2_with fail
        go_ret
        exact ⟨false, rfl, ⟨fun h => absurd h Bool.false_ne_true, fun h => absurd h.2 q⟩, hB⟩

end Go.Proofs.Ythbjechgdjcogaa
