/- '==' and '!=' between two spans. -/
import Derived.Test.YtacjhenjagageaaProg
import Derived.WalkKit
import Derived.Laws.StructEq
namespace Go.Proofs.Ytacjhenjagageaa
open Go.RowKit
set_option linter.unusedVariables false
set_option linter.unusedSimpArgs false

theorem span_stood : Try.prog.stoodInHeld 30 = false := by kernel_rfl
theorem span_guardType : Try.prog.eqGuardType Try.prog.depth 30 = false := by kernel_rfl
theorem span_fields : Try.prog.underlying 30 = some (.struct (Try.prog.fieldsOf 30)) := by kernel_rfl

end Go.Proofs.Ytacjhenjagageaa
