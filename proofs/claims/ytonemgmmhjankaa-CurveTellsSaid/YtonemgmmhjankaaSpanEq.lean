/- '==' and '!=' between two spans. -/
import Derived.Test.YtonemgmmhjankaaProg
import Derived.WalkKit
import Derived.Laws.StructEq
namespace Go.Proofs.Ytonemgmmhjankaa
open Go.RowKit
set_option linter.unusedVariables false
set_option linter.unusedSimpArgs false

theorem span_stood : Try.prog.stoodInHeld 33 = false := by kernel_rfl
theorem span_guardType : Try.prog.eqGuardType Try.prog.depth 33 = false := by kernel_rfl
theorem span_fields : Try.prog.underlying 33 = some (.struct (Try.prog.fieldsOf 33)) := by kernel_rfl

end Go.Proofs.Ytonemgmmhjankaa
