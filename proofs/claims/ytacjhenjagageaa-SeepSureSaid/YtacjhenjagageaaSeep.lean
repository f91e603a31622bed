/- Contracts of package seep: part. -/
import Derived.Test.YtacjhenjagageaaExact
import Derived.Test.YtacjhenjagageaaSpan
namespace Go.Proofs.Ytacjhenjagageaa
open Go.RowKit
set_option linter.unusedVariables false
set_option linter.unusedSimpArgs false

def partOf (v num den : Int) : Int := if Xa.fits v num den = true then v * num / den else 0
theorem part_any (v n d : Int) (w : World) :
    Calls Try.prog 25 #[.int .i64 v, .int .i64 n, .int .i64 d] w fun e w' => e = .returned (.int .i64 (partOf v n d)) ∧ ∃ k, w' = w.drewN k := by
  have c := scale_any v n d w
  unfold partOf
  by_cases hf : Xa.fits v n d = true
  · rw [if_pos hf]
    rw [show Xa.scale v n d = (v * n / d, v * n % d, true) from if_pos hf] at c
    have C := Lib.hid c
    clear c hf
    go_enter Try.func25, Try.ntmps25
    go_wp2_with (go_at_call 31; refine C.out.mono ?_; rintro e w' ⟨rfl, k, rfl⟩)
    go_ret
    exact ⟨rfl, _, rfl⟩
  · rw [if_neg hf]
    rw [show Xa.scale v n d = (0, 0, false) from if_neg hf] at c
    have C := Lib.hid c
    clear c hf
    go_enter Try.func25, Try.ntmps25
    go_wp2_with (go_at_call 31; refine C.out.mono ?_; rintro e w' ⟨rfl, k, rfl⟩)
    go_ret
    exact ⟨rfl, _, rfl⟩

end Go.Proofs.Ytacjhenjagageaa
