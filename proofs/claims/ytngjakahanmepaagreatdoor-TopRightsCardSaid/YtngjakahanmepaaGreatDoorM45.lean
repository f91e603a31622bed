/- Part 45 of the proof of TopRights: step.share and its closure. -/
import Derived.Test.YtngjakahanmepaaGreatDoorM39
import Derived.Test.YtngjakahanmepaaGreatDoorM44
namespace Go.Proofs.YtngjakahanmepaaGreatDoor
open Go.RowKit
set_option linter.unusedVariables false
set_option linter.unusedSimpArgs false
def ShrB (n : Int) (w : World) (e : Ending) (w' : World) : Prop := ∃ g, e = .returned (.func (.func 107) #[] #[.pointer (some ⟨g, 0, none⟩)]) ∧ MB w w' [(g, [.int .i64 n])]
set_option maxHeartbeats 2000000 in
theorem share_is (n : Int) (w : World) : Calls Tryz.prog 73 #[.int .i64 n] w (ShrB n w) := by
  have HM := Lib.hid ((MB.nil w).new 3 [.int .i64 n])
  go_enter Tryz.func73, Tryz.ntmps73
  go_wp2_with fail
  go_ret
  exact ⟨_, rfl, HM.out⟩
def TakB (T R : List Int) (w : World) (e : Ending) (w' : World) : Prop := ∃ g1 g2, e = .returned (.tuple #[.slice (some ⟨g1, 0, none⟩) 2 2, .slice (some ⟨g2, 0, none⟩) 2 2]) ∧ MB w w' [(g2, ints R), (g1, ints T)]
theorem mb_two {w w' : World} {g1 g2 : Nat} {xs ys : List Value} (hb : Below w.heap.size w w') (h1 : Bo w' g1 xs) (h2 : Bo w' g2 ys) (l1 : w.heap.size ≤ g1) (hlt : g1 < g2) : MB w w' [(g2, ys), (g1, xs)] :=
  ⟨hb, ⟨fun p hp => by
    simp only [List.mem_cons, List.not_mem_nil, or_false] at hp
    rcases hp with rfl | rfl
    · exact h2
    · exact h1, by simp; omega⟩, fun p hp => by
    simp only [List.mem_cons, List.not_mem_nil, or_false] at hp
    rcases hp with rfl | rfl
    · exact Nat.le_trans l1 (Nat.le_of_lt hlt)
    · exact l1⟩
/-- what is taken, by reckoning -/
theorem take_zero {p T : List Int} (h : Pw.TakeQ p 0 T) : T = Pw.gl p.length fun _ => 0 := by
  rcases h with ⟨h, _⟩ | ⟨_, h⟩
  · omega
  · exact h
set_option maxHeartbeats 4000000 in
theorem share1_is (b c g : Nat) (p T R : List Int) (k : Int) (hl : p.length = 2) (hf : fitB p = true) (hT : ∀ T', Pw.TakeQ p k T' → T' = T) (hR : (Pw.gl 2 fun i => Pw.gi p i - Pw.gi T i) = R) (w : World) (hr : Rd w (some ⟨b, 0, none⟩) (ints p)) (hb : Bo w g [.int .i64 k]) :
    Calls Tryz.prog 107 #[.slice (some ⟨b, 0, none⟩) 2 c, .pointer (some ⟨g, 0, none⟩)] w (TakB T R w) := by
  have h1 := fun z : BelW w => (show z.w.cell? ⟨g, 0, none⟩ = some (.int .i64 k) from (hb.next z.2).cell 0 rfl)
  have h0 : w.cell? ⟨g, 0, none⟩ = some (.int .i64 k) := hb.cell 0 rfl
  have HC := Lib.hid (show Calls Tryz.prog 108 #[.slice (some ⟨b, 0, none⟩) 2 c, .int .i64 k] w (Pw.TwoPost 2 (Pw.TakeQ p k) p w) from by
    have := Pw.take_any (some ⟨b, 0, none⟩) c p (by omega) (fitB_spec hf) k w hr
    rw [hl] at this
    exact this)
  have HT := Lib.hid hT
  clear hT hr hb
  subst hR
  go_enter Tryz.func107, Tryz.ntmps107
  go_wp2_with fail
  refine HC.out.mono ?_
  rintro e w2 ⟨g1, g2, T', rfl, hq, hlt, hI1, hI2, hB, hg⟩
  obtain rfl := HT.out T' hq
  have HM := Lib.hid (mb_two hB (Bo.of_own hI1) (Bo.of_own hI2) hI1.lt.1 hg)
  clear hI1 hI2 hB hq hlt hg
  go_wp2_with fail
  go_ret2
  exact ⟨g1, g2, rfl, HM.out⟩
end Go.Proofs.YtngjakahanmepaaGreatDoor
