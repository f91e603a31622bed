/- '==' and '!=' between two spans. -/
import Derived.Test.YtbmjenmfcndnfaaProg
import Derived.WalkKit
import Derived.Laws.StructEq
namespace Go.Proofs.Ytbmjenmfcndnfaa
open Go.RowKit

theorem span_stood : Try.prog.stoodInHeld 23 = false := by kernel_rfl
theorem span_guardType : Try.prog.eqGuardType Try.prog.depth 23 = false := by kernel_rfl
theorem span_fields : Try.prog.underlying 23 = some (.struct (Try.prog.fieldsOf 23)) := by kernel_rfl

end Go.Proofs.Ytbmjenmfcndnfaa
