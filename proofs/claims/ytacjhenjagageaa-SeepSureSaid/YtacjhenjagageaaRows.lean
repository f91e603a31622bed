/-
  No cell of these rows narrows 'for every input' (looked for: loops, veiled, ifaces, maps, wideKeys, modest, calm, conditions, laid).
  DERIVED. THE GIVEN ROWS OF THIS SEAT. 6 by the template 'for every input the law returns true; each argument reads behind the call as it read before'; 0 by the template 'total and deterministic' (their statements: YtacjhenjagageaaTotals.lean).
  GIVEN WITH THE SEED: the statements are not yours to turn. If you find one false, say at which input.
  Laid BY PROGRAM, IN A SANDBOX (cutbox-rows.mjs): the forced cells as the released guide's own fill.sh prints them over the translation 9a569592e9d4f1aa… (all of the seat's roots in one cut). By AI agents, Wed Nov 11 2026. No macro, syntax, notation, axiom, sorry.
-/
import Derived.Test.YtacjhenjagageaaChecked
import GoSem.Claim
import GoSem.ClaimJoined
import GoSem.ClaimMapViews
import Derived.JoinedTies
import Derived.KernelRfl
namespace Go.Proofs.Ytacjhenjagageaa
/- THE CELL 'sum', in the pinned program and in every row, IS THE sha256 OF THE DUMP (.gsa) THAT YtacjhenjagageaaProg.lean LOADS. Nothing in Lean hashes anything: it is a label: what it is worth is what the hold of that sum in a sandbox is worth. -/
noncomputable def Try.pinned : Pinned := { name := "ytacjhenjagageaa", sum := "9a569592e9d4f1aa8666287e3928bc430cb9bd5294e09d2366467b05e035b864", checked := Try.checked }
namespace Rows
def none {H : Type} : Left H := { results := [], args := [] }

/-- 'bournelaw20.SeepTells': WHATEVER THE INPUT: true; the input reads as it did. -/
def seepTellsSpec : ChangeSpec := { name := "seepTells", fn := fun _ => fun
  | [d1, d2, d3, d4, d5] => { results := [.lit (.bool true)], args := [d1, d2, d3, d4, d5] }
  | _ => none }
def seepTellsRow : OpenClaim := { program := "ytacjhenjagageaa", sum := "9a569592e9d4f1aa8666287e3928bc430cb9bd5294e09d2366467b05e035b864", func := "bourne/bournelaw20.SeepTells", spec := "seepTells", unfollowed := true, recurses := true, named := ["math/bits.divideError", "math/bits.overflowError"], apart := false }
def SeepTellsSaid : Prop := seepTellsRow.holds Try.pinned (OpenSpec.ofChange seepTellsSpec)

/-- ITS FALSE NEIGHBOUR: 'it returns false'. Refute it at one input. -/
def seepTellsWrong : ChangeSpec := { name := "seepTells", fn := fun _ => fun
  | [d1, d2, d3, d4, d5] => { results := [.lit (.bool false)], args := [d1, d2, d3, d4, d5] }
  | _ => none }
def SeepTellsWrongFalsely : Prop := seepTellsRow.holds Try.pinned (OpenSpec.ofChange seepTellsWrong)

/-- 'bournelaw20.SeepTurns': WHATEVER THE INPUT: true; the input reads as it did. -/
def seepTurnsSpec : ChangeSpec := { name := "seepTurns", fn := fun _ => fun
  | [d1, d2, d3] => { results := [.lit (.bool true)], args := [d1, d2, d3] }
  | _ => none }
def seepTurnsRow : OpenClaim := { program := "ytacjhenjagageaa", sum := "9a569592e9d4f1aa8666287e3928bc430cb9bd5294e09d2366467b05e035b864", func := "bourne/bournelaw20.SeepTurns", spec := "seepTurns", unfollowed := true, recurses := true, named := ["math/bits.divideError", "math/bits.overflowError"], apart := false }
def SeepTurnsSaid : Prop := seepTurnsRow.holds Try.pinned (OpenSpec.ofChange seepTurnsSpec)

/-- ITS FALSE NEIGHBOUR: 'it returns false'. Refute it at one input. -/
def seepTurnsWrong : ChangeSpec := { name := "seepTurns", fn := fun _ => fun
  | [d1, d2, d3] => { results := [.lit (.bool false)], args := [d1, d2, d3] }
  | _ => none }
def SeepTurnsWrongFalsely : Prop := seepTurnsRow.holds Try.pinned (OpenSpec.ofChange seepTurnsWrong)

/-- 'bournelaw20.SeepHolds': WHATEVER THE INPUT: true; the input reads as it did. -/
def seepHoldsSpec : ChangeSpec := { name := "seepHolds", fn := fun _ => fun
  | [d1, d2, d3] => { results := [.lit (.bool true)], args := [d1, d2, d3] }
  | _ => none }
def seepHoldsRow : OpenClaim := { program := "ytacjhenjagageaa", sum := "9a569592e9d4f1aa8666287e3928bc430cb9bd5294e09d2366467b05e035b864", func := "bourne/bournelaw20.SeepHolds", spec := "seepHolds", unfollowed := true, recurses := true, named := ["math/bits.divideError", "math/bits.overflowError"], apart := false }
def SeepHoldsSaid : Prop := seepHoldsRow.holds Try.pinned (OpenSpec.ofChange seepHoldsSpec)

/-- ITS FALSE NEIGHBOUR: 'it returns false'. Refute it at one input. -/
def seepHoldsWrong : ChangeSpec := { name := "seepHolds", fn := fun _ => fun
  | [d1, d2, d3] => { results := [.lit (.bool false)], args := [d1, d2, d3] }
  | _ => none }
def SeepHoldsWrongFalsely : Prop := seepHoldsRow.holds Try.pinned (OpenSpec.ofChange seepHoldsWrong)

/-- 'bournelaw20.SeepGrows': WHATEVER THE INPUT: true; the input reads as it did. -/
def seepGrowsSpec : ChangeSpec := { name := "seepGrows", fn := fun _ => fun
  | [d1, d2, d3, d4] => { results := [.lit (.bool true)], args := [d1, d2, d3, d4] }
  | _ => none }
def seepGrowsRow : OpenClaim := { program := "ytacjhenjagageaa", sum := "9a569592e9d4f1aa8666287e3928bc430cb9bd5294e09d2366467b05e035b864", func := "bourne/bournelaw20.SeepGrows", spec := "seepGrows", unfollowed := true, recurses := true, named := ["math/bits.divideError", "math/bits.overflowError"], apart := false }
def SeepGrowsSaid : Prop := seepGrowsRow.holds Try.pinned (OpenSpec.ofChange seepGrowsSpec)

/-- ITS FALSE NEIGHBOUR: 'it returns false'. Refute it at one input. -/
def seepGrowsWrong : ChangeSpec := { name := "seepGrows", fn := fun _ => fun
  | [d1, d2, d3, d4] => { results := [.lit (.bool false)], args := [d1, d2, d3, d4] }
  | _ => none }
def SeepGrowsWrongFalsely : Prop := seepGrowsRow.holds Try.pinned (OpenSpec.ofChange seepGrowsWrong)

/-- 'bournelaw20.SeepEncloses': WHATEVER THE INPUT: true; the input reads as it did. -/
def seepEnclosesSpec : ChangeSpec := { name := "seepEncloses", fn := fun _ => fun
  | [d1, d2, d3, d4, d5, d6, d7] => { results := [.lit (.bool true)], args := [d1, d2, d3, d4, d5, d6, d7] }
  | _ => none }
def seepEnclosesRow : OpenClaim := { program := "ytacjhenjagageaa", sum := "9a569592e9d4f1aa8666287e3928bc430cb9bd5294e09d2366467b05e035b864", func := "bourne/bournelaw20.SeepEncloses", spec := "seepEncloses", unfollowed := true, recurses := true, named := ["math/bits.divideError", "math/bits.overflowError"], apart := false }
def SeepEnclosesSaid : Prop := seepEnclosesRow.holds Try.pinned (OpenSpec.ofChange seepEnclosesSpec)

/-- ITS FALSE NEIGHBOUR: 'it returns false'. Refute it at one input. -/
def seepEnclosesWrong : ChangeSpec := { name := "seepEncloses", fn := fun _ => fun
  | [d1, d2, d3, d4, d5, d6, d7] => { results := [.lit (.bool false)], args := [d1, d2, d3, d4, d5, d6, d7] }
  | _ => none }
def SeepEnclosesWrongFalsely : Prop := seepEnclosesRow.holds Try.pinned (OpenSpec.ofChange seepEnclosesWrong)

/-- 'bournelaw20.SeepSure': WHATEVER THE INPUT: true; the input reads as it did. -/
def seepSureSpec : ChangeSpec := { name := "seepSure", fn := fun _ => fun
  | [d1, d2, d3, d4] => { results := [.lit (.bool true)], args := [d1, d2, d3, d4] }
  | _ => none }
def seepSureRow : OpenClaim := { program := "ytacjhenjagageaa", sum := "9a569592e9d4f1aa8666287e3928bc430cb9bd5294e09d2366467b05e035b864", func := "bourne/bournelaw20.SeepSure", spec := "seepSure", unfollowed := true, recurses := true, named := ["math/bits.divideError", "math/bits.overflowError"], apart := false }
def SeepSureSaid : Prop := seepSureRow.holds Try.pinned (OpenSpec.ofChange seepSureSpec)

/-- ITS FALSE NEIGHBOUR: 'it returns false'. Refute it at one input. -/
def seepSureWrong : ChangeSpec := { name := "seepSure", fn := fun _ => fun
  | [d1, d2, d3, d4] => { results := [.lit (.bool false)], args := [d1, d2, d3, d4] }
  | _ => none }
def SeepSureWrongFalsely : Prop := seepSureRow.holds Try.pinned (OpenSpec.ofChange seepSureWrong)

/- THE SECOND FORM. 'bulk': how many values and letters a reading holds, each counted each time it is reached (what is shared counts as often as it is met; a slice's spare places count too). A statement '..UptoSaid' is the law's where the arguments, and the package variables that the reading takes, are together of bulk at most 1048576: NARROWER than '..Said'. Prove '..Said' where nothing that the law and all that it calls make is longer than what came in: it says more and counts as full. Else prove '..UptoSaid'. A law counts once. -/
mutual
def uptoBulk {H : Type} : DataW H → Nat
  | .lit (.string bytes) => bytes.length + 1
  | .lit _ => 1
  | .nil => 1
  | .ptr d => uptoBulk d + 1
  | .slice elems spare => uptoBulkAll elems + uptoBulkAll spare + 1
  | .agg parts => uptoBulkAll parts + 1
  | .iface _ d => uptoBulk d + 1
  | .map entries => uptoBulkEntries entries + 1
  | .held _ => 1
def uptoBulkAll {H : Type} : List (DataW H) → Nat
  | [] => 0
  | d :: r => uptoBulk d + uptoBulkAll r
def uptoBulkEntries {H : Type} : List (Lit × DataW H) → Nat
  | [] => 0
  | x :: r => uptoBulkEntry x + uptoBulkEntries r
def uptoBulkEntry {H : Type} : Lit × DataW H → Nat
  | (.string bytes, d) => bytes.length + uptoBulk d + 1
  | (_, d) => uptoBulk d + 1
 end
def uptoSmall : (H : Type) → List (DataW H) → Bool := fun _ ds => decide (uptoBulkAll ds ≤ 1048576)
def OpenSpec.upto (s : _root_.Go.ChangeSpec) : _root_.Go.OpenSpec := { _root_.Go.OpenSpec.ofChange s with cond := some uptoSmall }

/-- 'bournelaw20.SeepTells', WHERE WHAT IT READS IS OF BULK AT MOST 1048576: true; the input reads as it did. -/
def seepTellsUptoRow : OpenClaim := { program := "ytacjhenjagageaa", sum := "9a569592e9d4f1aa8666287e3928bc430cb9bd5294e09d2366467b05e035b864", func := "bourne/bournelaw20.SeepTells", spec := "seepTells", unfollowed := true, recurses := true, named := ["math/bits.divideError", "math/bits.overflowError"], apart := false, narrowed := true }
def SeepTellsUptoSaid : Prop := seepTellsUptoRow.holds Try.pinned (OpenSpec.upto seepTellsSpec)

/-- 'bournelaw20.SeepTurns', WHERE WHAT IT READS IS OF BULK AT MOST 1048576: true; the input reads as it did. -/
def seepTurnsUptoRow : OpenClaim := { program := "ytacjhenjagageaa", sum := "9a569592e9d4f1aa8666287e3928bc430cb9bd5294e09d2366467b05e035b864", func := "bourne/bournelaw20.SeepTurns", spec := "seepTurns", unfollowed := true, recurses := true, named := ["math/bits.divideError", "math/bits.overflowError"], apart := false, narrowed := true }
def SeepTurnsUptoSaid : Prop := seepTurnsUptoRow.holds Try.pinned (OpenSpec.upto seepTurnsSpec)

/-- 'bournelaw20.SeepHolds', WHERE WHAT IT READS IS OF BULK AT MOST 1048576: true; the input reads as it did. -/
def seepHoldsUptoRow : OpenClaim := { program := "ytacjhenjagageaa", sum := "9a569592e9d4f1aa8666287e3928bc430cb9bd5294e09d2366467b05e035b864", func := "bourne/bournelaw20.SeepHolds", spec := "seepHolds", unfollowed := true, recurses := true, named := ["math/bits.divideError", "math/bits.overflowError"], apart := false, narrowed := true }
def SeepHoldsUptoSaid : Prop := seepHoldsUptoRow.holds Try.pinned (OpenSpec.upto seepHoldsSpec)

/-- 'bournelaw20.SeepGrows', WHERE WHAT IT READS IS OF BULK AT MOST 1048576: true; the input reads as it did. -/
def seepGrowsUptoRow : OpenClaim := { program := "ytacjhenjagageaa", sum := "9a569592e9d4f1aa8666287e3928bc430cb9bd5294e09d2366467b05e035b864", func := "bourne/bournelaw20.SeepGrows", spec := "seepGrows", unfollowed := true, recurses := true, named := ["math/bits.divideError", "math/bits.overflowError"], apart := false, narrowed := true }
def SeepGrowsUptoSaid : Prop := seepGrowsUptoRow.holds Try.pinned (OpenSpec.upto seepGrowsSpec)

/-- 'bournelaw20.SeepEncloses', WHERE WHAT IT READS IS OF BULK AT MOST 1048576: true; the input reads as it did. -/
def seepEnclosesUptoRow : OpenClaim := { program := "ytacjhenjagageaa", sum := "9a569592e9d4f1aa8666287e3928bc430cb9bd5294e09d2366467b05e035b864", func := "bourne/bournelaw20.SeepEncloses", spec := "seepEncloses", unfollowed := true, recurses := true, named := ["math/bits.divideError", "math/bits.overflowError"], apart := false, narrowed := true }
def SeepEnclosesUptoSaid : Prop := seepEnclosesUptoRow.holds Try.pinned (OpenSpec.upto seepEnclosesSpec)

/-- 'bournelaw20.SeepSure', WHERE WHAT IT READS IS OF BULK AT MOST 1048576: true; the input reads as it did. -/
def seepSureUptoRow : OpenClaim := { program := "ytacjhenjagageaa", sum := "9a569592e9d4f1aa8666287e3928bc430cb9bd5294e09d2366467b05e035b864", func := "bourne/bournelaw20.SeepSure", spec := "seepSure", unfollowed := true, recurses := true, named := ["math/bits.divideError", "math/bits.overflowError"], apart := false, narrowed := true }
def SeepSureUptoSaid : Prop := seepSureUptoRow.holds Try.pinned (OpenSpec.upto seepSureSpec)

end Rows
end Go.Proofs.Ytacjhenjagageaa
