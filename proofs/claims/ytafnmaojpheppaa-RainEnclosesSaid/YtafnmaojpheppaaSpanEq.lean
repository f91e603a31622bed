/- '==' and '!=' between two spans. -/
import Derived.Test.YtafnmaojpheppaaProg
import Derived.WalkKit
import Derived.Laws.StructEq
namespace Go.Proofs.Ytafnmaojpheppaa
open Go.RowKit
set_option linter.unusedVariables false
set_option linter.unusedSimpArgs false

theorem span_stood : Try.prog.stoodInHeld 40 = false := by kernel_rfl
theorem span_guardType : Try.prog.eqGuardType Try.prog.depth 40 = false := by kernel_rfl
theorem span_fields : Try.prog.underlying 40 = some (.struct (Try.prog.fieldsOf 40)) := by kernel_rfl

end Go.Proofs.Ytafnmaojpheppaa
